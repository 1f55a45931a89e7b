/- The functions' simplified code, printed by a program of the claim's author; each is checked against the program's own code. Conditions: none. -/
import Derived.Test.YtdbgppfoenoijaaProg
import Derived.Test.YtdbgppfoenoijaaVyM
set_option linter.unusedVariables false
set_option maxRecDepth 100000
namespace Go.Proofs.Ytdbgppfoenoijaa
open Go.Vc
abbrev f_gosem_cut_init : Nat := 2
abbrev f_law_MergeMerges : Nat := 3
abbrev f_top_TopMerge : Nat := 4
abbrev f_merge_Merge : Nat := 5
abbrev f_ref_Merged : Nat := 6
abbrev f_law_sameTexts : Nat := 7
abbrev f_keep_TextOf : Nat := 8
abbrev f_keep_Picked : Nat := 9
abbrev f_edit_Apply : Nat := 10
abbrev f_keep_Few : Nat := 11
abbrev f_top_cutText : Nat := 12
abbrev f_diff_Cost : Nat := 13
abbrev f_top_sameTexts : Nat := 14
abbrev f_merge_Merge_1 : Nat := 15
abbrev f_slices_ContainsFunc___string_string_ : Nat := 16
abbrev f_merge_hunks : Nat := 17
abbrev f_merge_part : Nat := 18
abbrev f_merge_made : Nat := 19
abbrev f_slices_Equal___string_string_ : Nat := 20
abbrev f_ref_LinesFault : Nat := 21
abbrev f_ref_touched : Nat := 22
abbrev f_ref_Merged_1 : Nat := 23
abbrev f_edit_run : Nat := 24
abbrev f_diff_fault : Nat := 25
abbrev f_diff_costs : Nat := 26
abbrev f_slices_IndexFunc___string_string_ : Nat := 27
abbrev f_diff_Way : Nat := 28
abbrev f___merge_side__upTo : Nat := 29
abbrev f_ref_DiffSteps : Nat := 30
abbrev f_edit_Check : Nat := 31
abbrev f_edit_Undo : Nat := 32
abbrev f_edit_Made : Nat := 33
abbrev f_diff_fault_1 : Nat := 34
abbrev f_diff_add : Nat := 35
abbrev f_ref_common : Nat := 36

/-- fustian/fustiankeep.Picked: slots [0 a, 1 n, 2 a, 3 n] -/
def keep_Picked_c : SCode :=
  (.seq (.ops [⟨(some 4), .mov (.c (.int .i64 0)), none, false, []⟩] none [0, 1])
  (.seq (.ops [⟨(some 5), .mov (.t 0), none, false, []⟩,
    ⟨(some 6), .mov (.t 1), none, false, []⟩,
    ⟨(some 7), .bin .none .rem (.t 5) (.t 6), none, false, []⟩,
    ⟨(some 0), .mov (.t 7), none, false, []⟩] none [0, 1])
  (.seq (.seq (.ops [⟨(some 8), .mov (.t 0), none, false, []⟩,
    ⟨(some 9), .bin .none .lss (.t 8) (.c (.int .i64 0)), none, false, []⟩] none [0, 1, 9])
  (.cond (.t 9)
    (.seq (.ops [⟨(some 10), .mov (.t 0), none, false, []⟩,
      ⟨(some 11), .mov (.t 1), none, false, []⟩,
      ⟨(some 12), .bin .none .add (.t 10) (.t 11), none, false, []⟩,
      ⟨(some 4), .mov (.t 12), none, false, []⟩] none [4])
    .ret)
    .skip))
  (.seq (.ops [⟨(some 13), .mov (.t 0), none, false, []⟩,
    ⟨(some 4), .mov (.t 13), none, false, []⟩] none [4])
  .ret))))
def keep_Picked_r : List RRes := [.tmp 4]
def keep_Picked_hi : Hi := ⟨[], [(0, "a"), (1, "n"), (2, "a"), (3, "n")]⟩
def keep_Picked_an : An := .d
def keep_Picked_fi : Fi := ⟨14, keep_Picked_c, keep_Picked_r, keep_Picked_an, keep_Picked_hi, none⟩
theorem keep_Picked_ok : FiOk Try.prog f_keep_Picked keep_Picked_fi :=
  ⟨fun _ => by kernel_rfl, fun _ h hlen => fun_sound (by kernel_rfl) (fn := Try.f9) (draw_sound _ _) Try.func9 rfl (by kernel_rfl : comp Try.prog 14 _ keep_Picked_c = some keep_Picked_c) (by kernel_rfl : cRes Try.prog Try.f9.results.toList = some keep_Picked_r) hlen h, fun _ h => nomatch h⟩

/-- fustian/fustiankeep.TextOf: slots [0 l, 1 n, 2 l, 3 n, 5 out, 6 i] -/
def keep_TextOf_c : SCode :=
  (.seq (.ops [⟨(some 4), .mov (.c (.str [])), none, false, []⟩] none [0, 1])
  (.seq (.ops [⟨(some 5), .mov (.c (.str [])), none, false, []⟩] none [0, 1, 5])
  (.seq (.seq (.ops [⟨(some 6), .mov (.c (.int .i64 0)), none, false, []⟩] none [0, 1, 5, 6])
  (.block 0 (.loop [0, 1] [5, 6] 0
    (.seq (.seq (.ops [⟨(some 7), .mov (.t 6), none, false, []⟩,
      ⟨(some 8), .mov (.t 0), none, false, []⟩,
      ⟨(some 9), .len false (.t 8), none, false, []⟩,
      ⟨(some 10), .bin .none .lss (.t 7) (.t 9), none, false, []⟩,
      ⟨(some 11), .mov (.t 10), none, true, []⟩,
      ⟨(some 12), .mov (.t 6), (some (11, true)), false, []⟩,
      ⟨(some 13), .mov (.t 1), (some (11, true)), false, []⟩,
      ⟨(some 14), .bin .none .lss (.t 12) (.t 13), (some (11, true)), false, []⟩,
      ⟨(some 15), .pick (.t 11) (.t 14) (.c (.bool false)), none, false, []⟩] none [0, 1, 5, 6, 15])
    (.cond (.t 15)
      .skip
      (.exit 0)))
    (.seq (.block 1 (.ops [⟨(some 18), .mov (.t 5), none, false, []⟩,
      ⟨(some 19), .mov (.t 0), none, false, []⟩,
      ⟨(some 20), .mov (.t 6), none, false, []⟩,
      ⟨(some 21), .iaddr 1 none (.t 19) (.t 20), none, false, []⟩,
      ⟨(some 22), .load 1 false (.t 21), none, false, []⟩,
      ⟨(some 23), .call f_keep_Picked [(.t 22), (.c (.int .i64 12))], none, false, []⟩,
      ⟨(some 24), .slice 0 (.c (.str [97, 98, 32, 10, 97, 98, 99, 100, 32, 98, 10, 97])) (some (.t 23)) none, none, false, []⟩,
      ⟨(some 25), .slice 0 (.t 24) none (some (.c (.int .i64 1))), none, false, []⟩,
      ⟨(some 26), .bin .none .add (.t 18) (.t 25), none, false, []⟩,
      ⟨(some 5), .mov (.t 26), none, false, []⟩] none [0, 1, 5, 6]))
    (.ops [⟨(some 16), .mov (.t 6), none, false, []⟩,
      ⟨(some 17), .bin .none .add (.t 16) (.c (.int .i64 1)), none, false, []⟩,
      ⟨(some 6), .mov (.t 17), none, false, []⟩] none [0, 1, 5, 6]))))))
  (.seq (.ops [⟨(some 27), .mov (.t 5), none, false, []⟩,
    ⟨(some 4), .mov (.t 27), none, false, []⟩] none [4])
  .ret))))
def keep_TextOf_r : List RRes := [.tmp 4]
def keep_TextOf_hi : Hi := ⟨[], [(0, "l"), (1, "n"), (2, "l"), (3, "n"), (5, "out"), (6, "i")]⟩
def keep_TextOf_an : An := (.seq .d (.seq .d (.seq (.seq .d (.loop [] [] [] .d)) .d)))
def keep_TextOf_fi : Fi := ⟨28, keep_TextOf_c, keep_TextOf_r, keep_TextOf_an, keep_TextOf_hi, none⟩
theorem keep_TextOf_ok : FiOk Try.prog f_keep_TextOf keep_TextOf_fi :=
  ⟨fun _ => by kernel_rfl, fun _ h hlen => fun_sound (by kernel_rfl) (fn := Try.f8) (draw_sound _ _) Try.func8 rfl (by kernel_rfl : comp Try.prog 28 _ keep_TextOf_c = some keep_TextOf_c) (by kernel_rfl : cRes Try.prog Try.f8.results.toList = some keep_TextOf_r) hlen h, fun _ h => nomatch h⟩

/-- fustian/fustiankeep.Few: slots [0 l, 1 n, 2 l, 3 n, 5 out, 6 i] -/
def keep_Few_c : SCode :=
  (.seq (.ops [⟨(some 4), .mov (.c (.str [])), none, false, []⟩] none [0, 1])
  (.seq (.ops [⟨(some 5), .mov (.c (.str [])), none, false, []⟩] none [0, 1, 5])
  (.seq (.seq (.ops [⟨(some 6), .mov (.c (.int .i64 0)), none, false, []⟩] none [0, 1, 5, 6])
  (.block 0 (.loop [0, 1] [5, 6] 0
    (.seq (.seq (.ops [⟨(some 7), .mov (.t 6), none, false, []⟩,
      ⟨(some 8), .mov (.t 0), none, false, []⟩,
      ⟨(some 9), .len false (.t 8), none, false, []⟩,
      ⟨(some 10), .bin .none .lss (.t 7) (.t 9), none, false, []⟩,
      ⟨(some 11), .mov (.t 10), none, true, []⟩,
      ⟨(some 12), .mov (.t 6), (some (11, true)), false, []⟩,
      ⟨(some 13), .mov (.t 1), (some (11, true)), false, []⟩,
      ⟨(some 14), .bin .none .lss (.t 12) (.t 13), (some (11, true)), false, []⟩,
      ⟨(some 15), .pick (.t 11) (.t 14) (.c (.bool false)), none, false, []⟩] none [0, 1, 5, 6, 15])
    (.cond (.t 15)
      .skip
      (.exit 0)))
    (.seq (.block 1 (.ops [⟨(some 18), .mov (.t 5), none, false, []⟩,
      ⟨(some 19), .bslice false 2 1 [(.str []), (.str [])] [(0, 1, (.c (.str [97]))), (1, 1, (.c (.str [98])))], none, false, []⟩,
      ⟨(some 20), .mov (.t 0), none, false, []⟩,
      ⟨(some 21), .mov (.t 6), none, false, []⟩,
      ⟨(some 22), .iaddr 1 none (.t 20) (.t 21), none, false, []⟩,
      ⟨(some 23), .load 1 false (.t 22), none, false, []⟩,
      ⟨(some 24), .call f_keep_Picked [(.t 23), (.c (.int .i64 2))], none, false, []⟩,
      ⟨(some 25), .iaddr 1 none (.t 19) (.t 24), none, false, []⟩,
      ⟨(some 26), .load 1 false (.t 25), none, false, []⟩,
      ⟨(some 27), .bin .none .add (.t 18) (.t 26), none, false, []⟩,
      ⟨(some 5), .mov (.t 27), none, false, []⟩] none [0, 1, 5, 6]))
    (.ops [⟨(some 16), .mov (.t 6), none, false, []⟩,
      ⟨(some 17), .bin .none .add (.t 16) (.c (.int .i64 1)), none, false, []⟩,
      ⟨(some 6), .mov (.t 17), none, false, []⟩] none [0, 1, 5, 6]))))))
  (.seq (.ops [⟨(some 28), .mov (.t 5), none, false, []⟩,
    ⟨(some 4), .mov (.t 28), none, false, []⟩] none [4])
  .ret))))
def keep_Few_r : List RRes := [.tmp 4]
def keep_Few_hi : Hi := ⟨[(19, .str)], [(0, "l"), (1, "n"), (2, "l"), (3, "n"), (5, "out"), (6, "i")]⟩
def keep_Few_an : An := (.seq .d (.seq .d (.seq (.seq .d (.loop [] [] [] .d)) .d)))
def keep_Few_fi : Fi := ⟨29, keep_Few_c, keep_Few_r, keep_Few_an, keep_Few_hi, none⟩
theorem keep_Few_ok : FiOk Try.prog f_keep_Few keep_Few_fi :=
  ⟨fun _ => by kernel_rfl, fun _ h hlen => fun_sound (by kernel_rfl) (fn := Try.f11) (draw_sound _ _) Try.func11 rfl (by kernel_rfl : comp Try.prog 29 _ keep_Few_c = some keep_Few_c) (by kernel_rfl : cRes Try.prog Try.f11.results.toList = some keep_Few_r) hlen h, fun _ h => nomatch h⟩

/-- fustian/edit.Check: slots [0 size, 1 e, 2 size, 3 e] -/
def edit_Check_c : SCode :=
  (.seq (.ops [⟨(some 3), .box 0 (.t 1), none, false, []⟩,
    ⟨(some 4), .mov (.c (.int .i64 0)), none, false, []⟩] none [0, 3])
  (.seq (.block 0 (.seq (.ops [⟨(some 6), .mov (.t 0), none, false, []⟩,
    ⟨(some 7), .bin .none .lss (.t 6) (.c (.int .i64 0)), none, false, []⟩,
    ⟨(some 8), .mov (.t 7), none, true, []⟩,
    ⟨(some 9), .mov (.t 0), (some (8, false)), false, []⟩,
    ⟨(some 10), .bin .none .gtr (.t 9) (.c (.int .i64 600)), (some (8, false)), false, []⟩,
    ⟨(some 11), .pick (.t 8) (.c (.bool true)) (.t 10), none, false, []⟩,
    ⟨(some 12), .mov (.t 11), none, true, []⟩,
    ⟨(some 13), .faddr 0 (.t 3), (some (12, false)), false, []⟩,
    ⟨(some 14), .load 1 false (.t 13), (some (12, false)), false, []⟩,
    ⟨(some 15), .bin .none .lss (.t 14) (.c (.int .i64 0)), (some (12, false)), false, []⟩,
    ⟨(some 16), .pick (.t 12) (.c (.bool true)) (.t 15), none, false, []⟩,
    ⟨(some 17), .mov (.t 16), none, true, []⟩,
    ⟨(some 18), .faddr 0 (.t 3), (some (17, false)), false, []⟩,
    ⟨(some 19), .load 1 false (.t 18), (some (17, false)), false, []⟩,
    ⟨(some 20), .mov (.t 0), (some (17, false)), false, []⟩,
    ⟨(some 21), .bin .none .gtr (.t 19) (.t 20), (some (17, false)), false, []⟩,
    ⟨(some 22), .pick (.t 17) (.c (.bool true)) (.t 21), none, false, []⟩,
    ⟨(some 23), .mov (.t 22), none, true, []⟩,
    ⟨(some 24), .faddr 1 (.t 3), (some (23, false)), false, []⟩,
    ⟨(some 25), .load 1 false (.t 24), (some (23, false)), false, []⟩,
    ⟨(some 26), .bin .none .lss (.t 25) (.c (.int .i64 0)), (some (23, false)), false, []⟩,
    ⟨(some 27), .pick (.t 23) (.c (.bool true)) (.t 26), none, false, []⟩,
    ⟨(some 28), .mov (.t 27), none, true, []⟩,
    ⟨(some 29), .faddr 1 (.t 3), (some (28, false)), false, []⟩,
    ⟨(some 30), .load 1 false (.t 29), (some (28, false)), false, []⟩,
    ⟨(some 31), .mov (.t 0), (some (28, false)), false, []⟩,
    ⟨(some 32), .faddr 0 (.t 3), (some (28, false)), false, []⟩,
    ⟨(some 33), .load 1 false (.t 32), (some (28, false)), false, []⟩,
    ⟨(some 34), .bin .none .sub (.t 31) (.t 33), (some (28, false)), false, []⟩,
    ⟨(some 35), .bin .none .gtr (.t 30) (.t 34), (some (28, false)), false, []⟩,
    ⟨(some 36), .pick (.t 28) (.c (.bool true)) (.t 35), none, false, []⟩,
    ⟨(some 5), .mov (.t 36), none, false, []⟩] none [0, 3, 5])
  (.cond (.t 5)
    (.seq (.ops [⟨(some 4), .mov (.c (.int .i64 2)), none, false, []⟩] none [4])
    .ret)
    (.seq (.ops [⟨(some 38), .mov (.t 0), none, false, []⟩,
      ⟨(some 39), .faddr 1 (.t 3), none, false, []⟩,
      ⟨(some 40), .load 1 false (.t 39), none, false, []⟩,
      ⟨(some 41), .bin .none .sub (.t 38) (.t 40), none, false, []⟩,
      ⟨(some 42), .faddr 2 (.t 3), none, false, []⟩,
      ⟨(some 43), .load 1 false (.t 42), none, false, []⟩,
      ⟨(some 44), .len true (.t 43), none, false, []⟩,
      ⟨(some 45), .bin .none .add (.t 41) (.t 44), none, false, []⟩,
      ⟨(some 46), .bin .none .gtr (.t 45) (.c (.int .i64 600)), none, false, []⟩,
      ⟨(some 37), .mov (.t 46), none, false, []⟩] none [37])
    (.cond (.t 37)
      (.seq (.ops [⟨(some 4), .mov (.c (.int .i64 1)), none, false, []⟩] none [4])
      .ret)
      .skip)))))
  (.seq (.ops [⟨(some 4), .mov (.c (.int .i64 0)), none, false, []⟩] none [4])
  .ret)))
def edit_Check_r : List RRes := [.tmp 4]
def edit_Check_hi : Hi := ⟨[(3, (.st (.cons (.int .i64) (.cons (.int .i64) (.cons .str .nil)))))], [(0, "size"), (1, "e"), (2, "size"), (3, "e")]⟩
def edit_Check_an : An := .d
def edit_Check_fi : Fi := ⟨47, edit_Check_c, edit_Check_r, edit_Check_an, edit_Check_hi, none⟩
theorem edit_Check_ok : FiOk Try.prog f_edit_Check edit_Check_fi :=
  ⟨fun _ => by kernel_rfl, fun _ h hlen => fun_sound (by kernel_rfl) (fn := Try.f31) (draw_sound _ _) Try.func31 rfl (by kernel_rfl : comp Try.prog 47 _ edit_Check_c = some edit_Check_c) (by kernel_rfl : cRes Try.prog Try.f31.results.toList = some edit_Check_r) hlen h, fun _ h => nomatch h⟩

/-- fustian/edit.Made: slots [0 text, 1 e, 2 text, 3 e] -/
def edit_Made_c : SCode :=
  (.seq (.ops [⟨(some 3), .box 0 (.t 1), none, false, []⟩,
    ⟨(some 4), .mov (.c (.str [])), none, false, []⟩] none [0, 3])
  (.seq (.ops [⟨(some 5), .mov (.t 0), none, false, []⟩,
    ⟨(some 6), .faddr 0 (.t 3), none, false, []⟩,
    ⟨(some 7), .load 1 false (.t 6), none, false, []⟩,
    ⟨(some 8), .slice 0 (.t 5) none (some (.t 7)), none, false, []⟩,
    ⟨(some 9), .faddr 2 (.t 3), none, false, []⟩,
    ⟨(some 10), .load 1 false (.t 9), none, false, []⟩,
    ⟨(some 11), .bin .none .add (.t 8) (.t 10), none, false, []⟩,
    ⟨(some 12), .mov (.t 0), none, false, []⟩,
    ⟨(some 13), .faddr 0 (.t 3), none, false, []⟩,
    ⟨(some 14), .load 1 false (.t 13), none, false, []⟩,
    ⟨(some 15), .faddr 1 (.t 3), none, false, []⟩,
    ⟨(some 16), .load 1 false (.t 15), none, false, []⟩,
    ⟨(some 17), .bin .none .add (.t 14) (.t 16), none, false, []⟩,
    ⟨(some 18), .slice 0 (.t 12) (some (.t 17)) none, none, false, []⟩,
    ⟨(some 19), .bin .none .add (.t 11) (.t 18), none, false, []⟩,
    ⟨(some 4), .mov (.t 19), none, false, []⟩] (some (0, 0, [0, 1, 2, 3, 4, 5, 6, 7, 8, 9, 10, 11, 12, 13, 14, 15])) [4])
  .ret))
def edit_Made_r : List RRes := [.tmp 4]
def edit_Made_hi : Hi := ⟨[(3, (.st (.cons (.int .i64) (.cons (.int .i64) (.cons .str .nil)))))], [(0, "text"), (1, "e"), (2, "text"), (3, "e")]⟩
def edit_Made_an : An := .d
def edit_Made_fi : Fi := ⟨20, edit_Made_c, edit_Made_r, edit_Made_an, edit_Made_hi, none⟩
theorem edit_Made_ok : FiOk Try.prog f_edit_Made edit_Made_fi :=
  ⟨fun _ => by kernel_rfl, fun _ h hlen => fun_sound (by kernel_rfl) (fn := Try.f33) (draw_sound _ _) Try.func33 rfl (by kernel_rfl : comp Try.prog 20 _ edit_Made_c = some edit_Made_c) (by kernel_rfl : cRes Try.prog Try.f33.results.toList = some edit_Made_r) hlen h, fun _ h => nomatch h⟩

/-- fustian/edit.Undo: slots [0 text, 1 e, 2 text, 3 e] -/
def edit_Undo_c : SCode :=
  (.seq (.ops [⟨(some 3), .box 0 (.t 1), none, false, []⟩,
    ⟨(some 4), .alloc 0 [(.int .i64 0), (.int .i64 0), (.str [])], none, false, []⟩] none [0, 3, 4])
  (.seq (.ops [⟨(some 5), .faddr 0 (.t 3), none, false, []⟩,
    ⟨(some 6), .load 1 false (.t 5), none, false, []⟩,
    ⟨(some 7), .faddr 2 (.t 3), none, false, []⟩,
    ⟨(some 8), .load 1 false (.t 7), none, false, []⟩,
    ⟨(some 9), .len true (.t 8), none, false, []⟩,
    ⟨(some 10), .mov (.t 0), none, false, []⟩,
    ⟨(some 11), .faddr 0 (.t 3), none, false, []⟩,
    ⟨(some 12), .load 1 false (.t 11), none, false, []⟩,
    ⟨(some 13), .faddr 0 (.t 3), none, false, []⟩,
    ⟨(some 14), .load 1 false (.t 13), none, false, []⟩,
    ⟨(some 15), .faddr 1 (.t 3), none, false, []⟩,
    ⟨(some 16), .load 1 false (.t 15), none, false, []⟩,
    ⟨(some 17), .bin .none .add (.t 14) (.t 16), none, false, []⟩,
    ⟨(some 18), .slice 0 (.t 10) (some (.t 12)) (some (.t 17)), none, false, []⟩,
    ⟨(some 19), .build [(.int .i64 0), (.int .i64 0), (.str [])] [(0, 1, (.t 6)), (1, 1, (.t 9)), (2, 1, (.t 18))], none, false, []⟩,
    ⟨none, .store 3 (.t 4) (.t 19), none, false, []⟩] (some (0, 0, [0, 1, 2, 3, 4, 5, 6, 7, 8, 9, 10, 11, 12, 13, 14, 15])) [4])
  .ret))
def edit_Undo_r : List RRes := [.cell 4 3 true]
def edit_Undo_hi : Hi := ⟨[(3, (.st (.cons (.int .i64) (.cons (.int .i64) (.cons .str .nil))))), (4, (.st (.cons (.int .i64) (.cons (.int .i64) (.cons .str .nil)))))], [(0, "text"), (1, "e"), (2, "text"), (3, "e")]⟩
def edit_Undo_an : An := .d
def edit_Undo_fi : Fi := ⟨20, edit_Undo_c, edit_Undo_r, edit_Undo_an, edit_Undo_hi, none⟩
theorem edit_Undo_ok : FiOk Try.prog f_edit_Undo edit_Undo_fi :=
  ⟨fun _ => by kernel_rfl, fun _ h hlen => fun_sound (by kernel_rfl) (fn := Try.f32) (draw_sound _ _) Try.func32 rfl (by kernel_rfl : comp Try.prog 20 _ edit_Undo_c = some edit_Undo_c) (by kernel_rfl : cRes Try.prog Try.f32.results.toList = some edit_Undo_r) hlen h, fun _ h => nomatch h⟩

/-- fustian/edit.run: slots [0 text, 1 l, 2 text, 3 l, 7 back, 8 _, 9 x, 10 e] -/
def edit_run_c : SCode :=
  (.seq (.ops [⟨(some 4), .mov (.c (.str [])), none, false, []⟩,
    ⟨(some 5), .mov (.c .nils), none, false, []⟩,
    ⟨(some 6), .mov (.c (.int .i64 0)), none, false, []⟩] none [0, 1])
  (.seq (.seq (.ops [⟨(some 11), .mov (.t 1), none, false, []⟩,
    ⟨(some 12), .len false (.t 11), none, false, []⟩,
    ⟨(some 13), .bin .none .gtr (.t 12) (.c (.int .i64 60)), none, false, []⟩,
    ⟨(some 14), .mov (.t 13), none, true, []⟩,
    ⟨(some 15), .mov (.t 0), (some (14, false)), false, []⟩,
    ⟨(some 16), .len true (.t 15), (some (14, false)), false, []⟩,
    ⟨(some 17), .bin .none .gtr (.t 16) (.c (.int .i64 600)), (some (14, false)), false, []⟩,
    ⟨(some 18), .pick (.t 14) (.c (.bool true)) (.t 17), none, false, []⟩] none [0, 1, 18])
  (.cond (.t 18)
    (.seq (.ops [⟨(some 4), .mov (.c (.str [])), none, false, []⟩,
      ⟨(some 5), .mov (.c .nils), none, false, []⟩,
      ⟨(some 6), .mov (.c (.int .i64 1)), none, false, []⟩] none [4, 5, 6])
    .ret)
    .skip))
  (.seq (.ops [⟨(some 7), .newnil 3, none, false, []⟩] none [0, 1, 7])
  (.seq (.seq (.ops [⟨(some 19), .mov (.t 1), none, false, []⟩,
    ⟨(some 20), .len false (.t 19), none, false, []⟩,
    ⟨(some 21), .mov (.c (.int .i64 0)), none, false, []⟩] none [0, 7, 19, 20, 21])
  (.block 0 (.loop [19, 20] [0, 7, 21] 1
    (.seq (.ops [⟨(some 22), .bin .none .lss (.t 21) (.t 20), none, false, []⟩] none [0, 7, 19, 20, 21, 22])
    (.seq (.cond (.t 22)
      .skip
      (.exit 0))
    (.seq (.block 1 (.seq (.ops [⟨(some 23), .iaddr 3 none (.t 19) (.t 21), none, false, []⟩,
      ⟨(some 24), .load 3 true (.t 23), none, false, []⟩,
      ⟨(some 9), .alloc 0 [(.int .i64 0), (.int .i64 0), (.str [])], none, false, []⟩,
      ⟨none, .store 3 (.t 9) (.t 24), none, false, []⟩] none [0, 7, 9, 19, 20, 21])
    (.seq (.seq (.ops [⟨(some 25), .mov (.t 0), none, false, []⟩,
      ⟨(some 26), .len true (.t 25), none, false, []⟩,
      ⟨(some 27), .load 3 true (.t 9), none, false, []⟩,
      ⟨(some 28), .call f_edit_Check [(.t 26), (.t 27)], none, false, []⟩,
      ⟨(some 10), .mov (.t 28), none, false, []⟩] none [0, 7, 9, 10, 19, 20, 21])
    (.seq (.ops [⟨(some 29), .mov (.t 10), none, false, []⟩,
      ⟨(some 30), .bin .none .neq (.t 29) (.c (.int .i64 0)), none, false, []⟩] none [0, 7, 9, 10, 19, 20, 21, 30])
    (.cond (.t 30)
      (.seq (.ops [⟨(some 31), .mov (.t 10), none, false, []⟩,
        ⟨(some 4), .mov (.c (.str [])), none, false, []⟩,
        ⟨(some 5), .mov (.c .nils), none, false, []⟩,
        ⟨(some 6), .mov (.t 31), none, false, []⟩] none [4, 5, 6])
      .ret)
      .skip)))
    (.seq (.ops [⟨(some 32), .mov (.t 7), none, false, []⟩,
      ⟨(some 33), .mov (.t 0), none, false, []⟩,
      ⟨(some 34), .load 3 true (.t 9), none, false, []⟩,
      ⟨(some 35), .call f_edit_Undo [(.t 33), (.t 34)], none, false, []⟩,
      ⟨(some 36), .bslice true 1 3 [(.int .i64 0), (.int .i64 0), (.str [])] [(0, 3, (.t 35))], none, false, []⟩,
      ⟨(some 37), .append 3 32 (.t 32) (.t 36), none, false, []⟩,
      ⟨(some 7), .mov (.t 37), none, false, []⟩] none [0, 7, 9, 19, 20, 21])
    (.ops [⟨(some 38), .mov (.t 0), none, false, []⟩,
      ⟨(some 39), .load 3 true (.t 9), none, false, []⟩,
      ⟨(some 40), .call f_edit_Made [(.t 38), (.t 39)], none, false, []⟩,
      ⟨(some 0), .mov (.t 40), none, false, []⟩] none [0, 7, 19, 20, 21])))))
    (.ops [⟨(some 41), .bin .none .add (.t 21) (.c (.int .i64 1)), none, false, []⟩,
      ⟨(some 21), .mov (.t 41), none, false, []⟩] none [0, 7, 19, 20, 21])))))))
  (.seq (.ops [⟨(some 42), .mov (.t 0), none, false, []⟩,
    ⟨(some 43), .mov (.t 7), none, false, []⟩,
    ⟨(some 4), .mov (.t 42), none, false, []⟩,
    ⟨(some 5), .mov (.t 43), none, false, []⟩,
    ⟨(some 6), .mov (.c (.int .i64 0)), none, false, []⟩] none [4, 5, 6])
  .ret)))))
def edit_run_r : List RRes := [.tmp 4, .tmp 5, .tmp 6]
def edit_run_hi : Hi := ⟨[(7, (.st (.cons (.int .i64) (.cons (.int .i64) (.cons .str .nil))))), (36, (.st (.cons (.int .i64) (.cons (.int .i64) (.cons .str .nil))))), (37, (.st (.cons (.int .i64) (.cons (.int .i64) (.cons .str .nil))))), (9, (.st (.cons (.int .i64) (.cons (.int .i64) (.cons .str .nil)))))], [(0, "text"), (1, "l"), (2, "text"), (3, "l"), (7, "back"), (9, "x"), (10, "e")]⟩
def edit_run_an : An := (.seq .d (.seq .d (.seq .d (.seq (.seq .d (.loop [7] [] [] .d)) .d))))
def edit_run_fi : Fi := ⟨44, edit_run_c, edit_run_r, edit_run_an, edit_run_hi, none⟩
theorem edit_run_ok : FiOk Try.prog f_edit_run edit_run_fi :=
  ⟨fun _ => by kernel_rfl, fun _ h hlen => fun_sound (by kernel_rfl) (fn := Try.f24) (draw_sound _ _) Try.func24 rfl (by kernel_rfl : comp Try.prog 44 _ edit_run_c = some edit_run_c) (by kernel_rfl : cRes Try.prog Try.f24.results.toList = some edit_run_r) hlen h, fun _ h => nomatch h⟩

/-- fustian/edit.Apply: slots [0 text, 1 l, 2 text, 3 l, 6 _, 7 e] -/
def edit_Apply_c : SCode :=
  (.seq (.ops [⟨(some 4), .mov (.c (.str [])), none, false, []⟩,
    ⟨(some 5), .mov (.c (.int .i64 0)), none, false, []⟩] none [0, 1])
  (.seq (.ops [⟨(some 9), .mov (.t 0), none, false, []⟩,
    ⟨(some 10), .mov (.t 1), none, false, []⟩,
    ⟨(some 11), .call f_edit_run [(.t 9), (.t 10)], none, false, []⟩,
    ⟨(some 8), .mov (.t 11), none, false, []⟩,
    ⟨(some 12), .extract (.t 8) 0, none, false, []⟩,
    ⟨(some 13), .extract (.t 8) 1, none, false, []⟩,
    ⟨(some 14), .extract (.t 8) 2, none, false, []⟩,
    ⟨(some 0), .mov (.t 12), none, false, []⟩,
    ⟨(some 6), .mov (.t 13), none, false, []⟩,
    ⟨(some 7), .mov (.t 14), none, false, []⟩] none [0, 7])
  (.seq (.ops [⟨(some 15), .mov (.t 0), none, false, []⟩,
    ⟨(some 16), .mov (.t 7), none, false, []⟩,
    ⟨(some 4), .mov (.t 15), none, false, []⟩,
    ⟨(some 5), .mov (.t 16), none, false, []⟩] none [4, 5])
  .ret)))
def edit_Apply_r : List RRes := [.tmp 4, .tmp 5]
def edit_Apply_hi : Hi := ⟨[], [(0, "text"), (1, "l"), (2, "text"), (3, "l"), (7, "e")]⟩
def edit_Apply_an : An := .d
def edit_Apply_fi : Fi := ⟨17, edit_Apply_c, edit_Apply_r, edit_Apply_an, edit_Apply_hi, none⟩
theorem edit_Apply_ok : FiOk Try.prog f_edit_Apply edit_Apply_fi :=
  ⟨fun _ => by kernel_rfl, fun _ h hlen => fun_sound (by kernel_rfl) (fn := Try.f10) (draw_sound _ _) Try.func10 rfl (by kernel_rfl : comp Try.prog 17 _ edit_Apply_c = some edit_Apply_c) (by kernel_rfl : cRes Try.prog Try.f10.results.toList = some edit_Apply_r) hlen h, fun _ h => nomatch h⟩

/-- fustian/fustiantop.cutText: slots [0 s, 1 s, 3 out, 4 i] -/
def top_cutText_c : SCode :=
  (.seq (.ops [⟨(some 2), .mov (.c .nils), none, false, []⟩] none [0])
  (.seq (.ops [⟨(some 5), .bslice false 1 1 [(.str [])] [(0, 1, (.c (.str [])))], none, false, []⟩,
    ⟨(some 3), .mov (.t 5), none, false, []⟩] none [0, 3])
  (.seq (.seq (.ops [⟨(some 4), .mov (.c (.int .i64 0)), none, false, []⟩] none [0, 3, 4])
  (.block 0 (.loop [0] [3, 4] 1
    (.seq (.seq (.ops [⟨(some 6), .mov (.t 4), none, false, []⟩,
      ⟨(some 7), .mov (.t 0), none, false, []⟩,
      ⟨(some 8), .len true (.t 7), none, false, []⟩,
      ⟨(some 9), .bin .none .lss (.t 6) (.t 8), none, false, []⟩] none [0, 3, 4, 9])
    (.cond (.t 9)
      .skip
      (.exit 0)))
    (.join [0, 4] [3] 1 (.block 1 (.seq (.ops [⟨(some 12), .mov (.t 0), none, false, []⟩,
        ⟨(some 13), .mov (.t 4), none, false, []⟩,
        ⟨(some 14), .index 1 none false (.t 12) (.t 13), none, false, []⟩,
        ⟨(some 15), .bin .none .eql (.t 14) (.c (.int .u8 10)), none, false, []⟩] none [0, 3, 4, 15])
      (.cond (.t 15)
        (.ops [⟨(some 16), .mov (.t 3), none, false, []⟩,
          ⟨(some 17), .bslice true 1 1 [(.str [])] [(0, 1, (.c (.str [])))], none, false, []⟩,
          ⟨(some 18), .append 1 16 (.t 16) (.t 17), none, false, []⟩,
          ⟨(some 3), .mov (.t 18), none, false, []⟩] none [0, 3, 4])
        (.ops [⟨(some 19), .mov (.t 3), none, false, []⟩,
          ⟨(some 20), .mov (.t 3), none, false, []⟩,
          ⟨(some 21), .len false (.t 20), none, false, []⟩,
          ⟨(some 22), .bin .none .sub (.t 21) (.c (.int .i64 1)), none, false, []⟩,
          ⟨(some 23), .iaddr 1 none (.t 19) (.t 22), none, false, []⟩,
          ⟨(some 24), .load 1 false (.t 23), none, false, []⟩,
          ⟨(some 25), .mov (.t 0), none, false, []⟩,
          ⟨(some 26), .mov (.t 4), none, false, []⟩,
          ⟨(some 27), .mov (.t 4), none, false, []⟩,
          ⟨(some 28), .bin .none .add (.t 27) (.c (.int .i64 1)), none, false, []⟩,
          ⟨(some 29), .slice 0 (.t 25) (some (.t 26)) (some (.t 28)), none, false, []⟩,
          ⟨(some 30), .bin .none .add (.t 24) (.t 29), none, false, []⟩,
          ⟨(some 31), .iaddr 1 none (.t 19) (.t 22), none, false, []⟩,
          ⟨none, .store 1 (.t 31) (.t 30), none, false, []⟩] (some (0, 0, [0, 1, 2, 3, 4, 5, 6, 7, 8, 9, 10, 11, 12, 13])) [0, 3, 4]))))
    (.ops [⟨(some 10), .mov (.t 4), none, false, []⟩,
      ⟨(some 11), .bin .none .add (.t 10) (.c (.int .i64 1)), none, false, []⟩,
      ⟨(some 4), .mov (.t 11), none, false, []⟩] none [0, 3, 4]))))))
  (.seq (.ops [⟨(some 32), .mov (.t 3), none, false, []⟩,
    ⟨(some 2), .mov (.t 32), none, false, []⟩] none [2])
  .ret))))
def top_cutText_r : List RRes := [.tmp 2]
def top_cutText_hi : Hi := ⟨[(5, .str), (17, .str), (18, .str)], [(0, "s"), (1, "s"), (3, "out"), (4, "i")]⟩
def top_cutText_an : An := (.seq .d (.seq .d (.seq (.seq .d (.loop [3] [] [] .d)) .d)))
def top_cutText_fi : Fi := ⟨33, top_cutText_c, top_cutText_r, top_cutText_an, top_cutText_hi, none⟩
theorem top_cutText_ok : FiOk Try.prog f_top_cutText top_cutText_fi :=
  ⟨fun _ => by kernel_rfl, fun _ h hlen => fun_sound (by kernel_rfl) (fn := Try.f12) (draw_sound _ _) Try.func12 rfl (by kernel_rfl : comp Try.prog 33 _ top_cutText_c = some top_cutText_c) (by kernel_rfl : cRes Try.prog Try.f12.results.toList = some top_cutText_r) hlen h, fun _ h => nomatch h⟩

/-- fustian/diff.fault: slots [0 ls, 1 ls, 3 long, 4 _, 5 l] -/
def diff_fault_c : SCode :=
  (.seq (.ops [⟨(some 2), .mov (.c (.int .i64 0)), none, false, []⟩] none [0])
  (.seq (.ops [⟨(some 3), .mov (.c (.fn (.func f_diff_fault_1) [] [])), none, false, []⟩] none [0, 3])
  (.seq (.seq (.ops [⟨(some 6), .mov (.t 0), none, false, []⟩,
    ⟨(some 7), .len false (.t 6), none, false, []⟩,
    ⟨(some 8), .mov (.c (.int .i64 0)), none, false, []⟩] none [3, 6, 7, 8])
  (.block 0 (.loop [3, 6, 7] [8] 0
    (.seq (.ops [⟨(some 9), .bin .none .lss (.t 8) (.t 7), none, false, []⟩] none [3, 6, 7, 8, 9])
    (.seq (.cond (.t 9)
      .skip
      (.exit 0))
    (.seq (.block 1 (.seq (.ops [⟨(some 10), .iaddr 1 none (.t 6) (.t 8), none, false, []⟩,
      ⟨(some 11), .load 1 false (.t 10), none, false, []⟩,
      ⟨(some 5), .mov (.t 11), none, false, []⟩] none [3, 5, 6, 7, 8])
    (.seq (.ops [⟨(some 12), .mov (.t 5), none, false, []⟩,
      ⟨(some 13), .len false (.t 12), none, false, []⟩,
      ⟨(some 14), .bin .none .gtr (.t 13) (.c (.int .i64 80)), none, false, []⟩,
      ⟨(some 15), .mov (.t 14), none, true, []⟩,
      ⟨(some 16), .mov (.t 5), (some (15, false)), false, []⟩,
      ⟨(some 17), .mov (.t 3), (some (15, false)), false, []⟩,
      ⟨(some 18), .call f_slices_ContainsFunc___string_string_ [(.t 16), (.t 17)], (some (15, false)), false, []⟩,
      ⟨(some 19), .pick (.t 15) (.c (.bool true)) (.t 18), none, false, []⟩] none [3, 6, 7, 8, 19])
    (.cond (.t 19)
      (.seq (.ops [⟨(some 2), .mov (.c (.int .i64 1)), none, false, []⟩] none [2])
      .ret)
      .skip))))
    (.ops [⟨(some 20), .bin .none .add (.t 8) (.c (.int .i64 1)), none, false, []⟩,
      ⟨(some 8), .mov (.t 20), none, false, []⟩] none [3, 6, 7, 8])))))))
  (.seq (.ops [⟨(some 2), .mov (.c (.int .i64 0)), none, false, []⟩] none [2])
  .ret))))
def diff_fault_r : List RRes := [.tmp 2]
def diff_fault_hi : Hi := ⟨[], [(0, "ls"), (1, "ls"), (3, "long"), (5, "l")]⟩
def diff_fault_an : An := (.seq .d (.seq .d (.seq (.seq .d (.loop [6, 3] [] [] .d)) .d)))
def diff_fault_fi : Fi := ⟨21, diff_fault_c, diff_fault_r, diff_fault_an, diff_fault_hi, none⟩
theorem diff_fault_ok : FiOk Try.prog f_diff_fault diff_fault_fi :=
  ⟨fun _ => by kernel_rfl, fun _ h hlen => fun_sound (by kernel_rfl) (fn := Try.f25) (draw_sound _ _) Try.func25 rfl (by kernel_rfl : comp Try.prog 21 _ diff_fault_c = some diff_fault_c) (by kernel_rfl : cRes Try.prog Try.f25.results.toList = some diff_fault_r) hlen h, fun _ h => nomatch h⟩

/-- fustian/diff.Cost: slots [0 a, 1 b, 2 a, 3 b, 6 e] -/
def diff_Cost_c : SCode :=
  (.seq (.ops [⟨(some 4), .mov (.c (.int .i64 0)), none, false, []⟩,
    ⟨(some 5), .mov (.c (.int .i64 0)), none, false, []⟩] none [0, 1])
  (.seq (.seq (.ops [⟨(some 7), .mov (.t 0), none, false, []⟩,
    ⟨(some 8), .mov (.t 1), none, false, []⟩,
    ⟨(some 9), .bslice true 2 1 [.nils, .nils] [(0, 1, (.t 7)), (1, 1, (.t 8))], none, false, []⟩,
    ⟨(some 10), .call f_diff_fault [(.t 9)], none, false, []⟩,
    ⟨(some 6), .mov (.t 10), none, false, []⟩] none [0, 1, 6])
  (.seq (.ops [⟨(some 11), .mov (.t 6), none, false, []⟩,
    ⟨(some 12), .bin .none .neq (.t 11) (.c (.int .i64 0)), none, false, []⟩] none [0, 1, 6, 12])
  (.cond (.t 12)
    (.seq (.ops [⟨(some 13), .mov (.t 6), none, false, []⟩,
      ⟨(some 4), .mov (.c (.int .i64 0)), none, false, []⟩,
      ⟨(some 5), .mov (.t 13), none, false, []⟩] none [4, 5])
    .ret)
    .skip)))
  (.seq (.ops [⟨(some 14), .mov (.t 0), none, false, []⟩,
    ⟨(some 15), .mov (.t 1), none, false, []⟩,
    ⟨(some 16), .call f_diff_costs [(.t 14), (.t 15)], none, false, []⟩,
    ⟨(some 17), .iaddr 1 none (.t 16) (.c (.int .i64 0)), none, false, []⟩,
    ⟨(some 18), .load 1 false (.t 17), none, false, []⟩,
    ⟨(some 19), .iaddr 1 none (.t 18) (.c (.int .i64 0)), none, false, []⟩,
    ⟨(some 20), .load 1 false (.t 19), none, false, []⟩,
    ⟨(some 4), .mov (.t 20), none, false, []⟩,
    ⟨(some 5), .mov (.c (.int .i64 0)), none, false, []⟩] none [4, 5])
  .ret)))
def diff_Cost_r : List RRes := [.tmp 4, .tmp 5]
def diff_Cost_hi : Hi := ⟨[(9, (.sl .str))], [(0, "a"), (1, "b"), (2, "a"), (3, "b"), (6, "e")]⟩
def diff_Cost_an : An := .d
def diff_Cost_fi : Fi := ⟨21, diff_Cost_c, diff_Cost_r, diff_Cost_an, diff_Cost_hi, none⟩
theorem diff_Cost_ok : FiOk Try.prog f_diff_Cost diff_Cost_fi :=
  ⟨fun _ => by kernel_rfl, fun _ h hlen => fun_sound (by kernel_rfl) (fn := Try.f13) (draw_sound _ _) Try.func13 rfl (by kernel_rfl : comp Try.prog 21 _ diff_Cost_c = some diff_Cost_c) (by kernel_rfl : cRes Try.prog Try.f13.results.toList = some diff_Cost_r) hlen h, fun _ h => nomatch h⟩

/-- fustian/diff.Way: slots [0 a, 1 b, 2 a, 3 b, 5 c, 6 out, 7 i, 8 k] -/
def diff_Way_c : SCode :=
  (.seq (.ops [⟨(some 4), .mov (.c .nils), none, false, []⟩] none [0, 1])
  (.seq (.ops [⟨(some 9), .mov (.t 0), none, false, []⟩,
    ⟨(some 10), .mov (.t 1), none, false, []⟩,
    ⟨(some 11), .call f_diff_costs [(.t 9), (.t 10)], none, false, []⟩,
    ⟨(some 5), .mov (.t 11), none, false, []⟩] none [0, 1, 5])
  (.seq (.ops [⟨(some 6), .newnil 2, none, false, []⟩] none [0, 1, 5, 6])
  (.seq (.seq (.ops [⟨(some 7), .mov (.c (.int .i64 0)), none, false, []⟩,
    ⟨(some 8), .mov (.c (.int .i64 0)), none, false, []⟩] none [0, 1, 5, 6, 7, 8])
  (.block 0 (.loop [0, 1, 5] [6, 7, 8] 1
    (.seq (.seq (.ops [⟨(some 12), .mov (.t 7), none, false, []⟩,
      ⟨(some 13), .mov (.t 0), none, false, []⟩,
      ⟨(some 14), .len false (.t 13), none, false, []⟩,
      ⟨(some 15), .bin .none .lss (.t 12) (.t 14), none, false, []⟩,
      ⟨(some 16), .mov (.t 15), none, true, []⟩,
      ⟨(some 17), .mov (.t 8), (some (16, false)), false, []⟩,
      ⟨(some 18), .mov (.t 1), (some (16, false)), false, []⟩,
      ⟨(some 19), .len false (.t 18), (some (16, false)), false, []⟩,
      ⟨(some 20), .bin .none .lss (.t 17) (.t 19), (some (16, false)), false, []⟩,
      ⟨(some 21), .pick (.t 16) (.c (.bool true)) (.t 20), none, false, []⟩] none [0, 1, 5, 6, 7, 8, 21])
    (.cond (.t 21)
      .skip
      (.exit 0)))
    (.block 1 (.block 2 (.seq (.ops [⟨(some 27), .mov (.t 7), none, false, []⟩,
      ⟨(some 28), .mov (.t 0), none, false, []⟩,
      ⟨(some 29), .len false (.t 28), none, false, []⟩,
      ⟨(some 30), .bin .none .lss (.t 27) (.t 29), none, false, []⟩,
      ⟨(some 31), .mov (.t 30), none, true, []⟩,
      ⟨(some 32), .mov (.t 8), (some (31, true)), false, []⟩,
      ⟨(some 33), .mov (.t 1), (some (31, true)), false, []⟩,
      ⟨(some 34), .len false (.t 33), (some (31, true)), false, []⟩,
      ⟨(some 35), .bin .none .lss (.t 32) (.t 34), (some (31, true)), false, []⟩,
      ⟨(some 36), .pick (.t 31) (.t 35) (.c (.bool false)), none, false, []⟩,
      ⟨(some 37), .mov (.t 36), none, true, []⟩,
      ⟨(some 38), .mov (.t 0), (some (37, true)), false, []⟩,
      ⟨(some 39), .mov (.t 7), (some (37, true)), false, []⟩,
      ⟨(some 40), .iaddr 1 none (.t 38) (.t 39), (some (37, true)), false, []⟩,
      ⟨(some 41), .load 1 false (.t 40), (some (37, true)), false, []⟩,
      ⟨(some 42), .mov (.t 1), (some (37, true)), false, []⟩,
      ⟨(some 43), .mov (.t 8), (some (37, true)), false, []⟩,
      ⟨(some 44), .iaddr 1 none (.t 42) (.t 43), (some (37, true)), false, []⟩,
      ⟨(some 45), .load 1 false (.t 44), (some (37, true)), false, []⟩,
      ⟨(some 46), .bin .none .eql (.t 41) (.t 45), (some (37, true)), false, []⟩,
      ⟨(some 47), .pick (.t 37) (.t 46) (.c (.bool false)), none, false, []⟩,
      ⟨(some 26), .mov (.t 47), none, false, []⟩] (some (0, 0, [0, 1, 2, 3, 4, 5, 6, 7, 8, 9, 10, 11, 12, 13, 14, 15, 16, 17, 18, 19, 20, 21])) [0, 1, 5, 6, 7, 8, 26])
    (.cond (.t 26)
      (.seq (.ops [⟨(some 48), .mov (.t 6), none, false, []⟩,
        ⟨(some 49), .call f_diff_add [(.t 48), (.c (.int .i64 1))], none, false, []⟩,
        ⟨(some 6), .mov (.t 49), none, false, []⟩] none [0, 1, 5, 6, 7, 8])
      (.seq (.ops [⟨(some 50), .mov (.t 7), none, false, []⟩,
        ⟨(some 51), .bin .none .add (.t 50) (.c (.int .i64 1)), none, false, []⟩,
        ⟨(some 7), .mov (.t 51), none, false, []⟩] none [0, 1, 5, 6, 7, 8])
      (.ops [⟨(some 52), .mov (.t 8), none, false, []⟩,
        ⟨(some 53), .bin .none .add (.t 52) (.c (.int .i64 1)), none, false, []⟩,
        ⟨(some 8), .mov (.t 53), none, false, []⟩] none [0, 1, 5, 6, 7, 8])))
      (.seq (.ops [⟨(some 55), .mov (.t 7), none, false, []⟩,
        ⟨(some 56), .mov (.t 0), none, false, []⟩,
        ⟨(some 57), .len false (.t 56), none, false, []⟩,
        ⟨(some 58), .bin .none .lss (.t 55) (.t 57), none, false, []⟩,
        ⟨(some 59), .mov (.t 58), none, true, []⟩,
        ⟨(some 60), .mov (.t 5), (some (59, true)), false, []⟩,
        ⟨(some 61), .mov (.t 7), (some (59, true)), false, []⟩,
        ⟨(some 62), .bin .none .add (.t 61) (.c (.int .i64 1)), (some (59, true)), false, []⟩,
        ⟨(some 63), .iaddr 1 none (.t 60) (.t 62), (some (59, true)), false, []⟩,
        ⟨(some 64), .load 1 false (.t 63), (some (59, true)), false, []⟩,
        ⟨(some 65), .mov (.t 8), (some (59, true)), false, []⟩,
        ⟨(some 66), .iaddr 1 none (.t 64) (.t 65), (some (59, true)), false, []⟩,
        ⟨(some 67), .load 1 false (.t 66), (some (59, true)), false, []⟩,
        ⟨(some 68), .bin .none .add (.t 67) (.c (.int .i64 1)), (some (59, true)), false, []⟩,
        ⟨(some 69), .mov (.t 5), (some (59, true)), false, []⟩,
        ⟨(some 70), .mov (.t 7), (some (59, true)), false, []⟩,
        ⟨(some 71), .iaddr 1 none (.t 69) (.t 70), (some (59, true)), false, []⟩,
        ⟨(some 72), .load 1 false (.t 71), (some (59, true)), false, []⟩,
        ⟨(some 73), .mov (.t 8), (some (59, true)), false, []⟩,
        ⟨(some 74), .iaddr 1 none (.t 72) (.t 73), (some (59, true)), false, []⟩,
        ⟨(some 75), .load 1 false (.t 74), (some (59, true)), false, []⟩,
        ⟨(some 76), .bin .none .eql (.t 68) (.t 75), (some (59, true)), false, []⟩,
        ⟨(some 77), .pick (.t 59) (.t 76) (.c (.bool false)), none, false, []⟩,
        ⟨(some 54), .mov (.t 77), none, false, []⟩] (some (0, 0, [0, 1, 2, 3, 4, 5, 6, 7, 8, 9, 10, 11, 12, 13, 14, 15, 16, 17, 18, 19, 20, 21, 22, 23])) [0, 1, 5, 6, 7, 8, 54])
      (.cond (.t 54)
        (.seq (.ops [⟨(some 78), .mov (.t 6), none, false, []⟩,
          ⟨(some 79), .call f_diff_add [(.t 78), (.c (.int .i64 2))], none, false, []⟩,
          ⟨(some 6), .mov (.t 79), none, false, []⟩] none [0, 1, 5, 6, 7, 8])
        (.ops [⟨(some 80), .mov (.t 7), none, false, []⟩,
          ⟨(some 81), .bin .none .add (.t 80) (.c (.int .i64 1)), none, false, []⟩,
          ⟨(some 7), .mov (.t 81), none, false, []⟩] none [0, 1, 5, 6, 7, 8]))
        (.seq (.ops [⟨(some 22), .mov (.t 6), none, false, []⟩,
          ⟨(some 23), .call f_diff_add [(.t 22), (.c (.int .i64 3))], none, false, []⟩,
          ⟨(some 6), .mov (.t 23), none, false, []⟩] none [0, 1, 5, 6, 7, 8])
        (.ops [⟨(some 24), .mov (.t 8), none, false, []⟩,
          ⟨(some 25), .bin .none .add (.t 24) (.c (.int .i64 1)), none, false, []⟩,
          ⟨(some 8), .mov (.t 25), none, false, []⟩] none [0, 1, 5, 6, 7, 8]))))))))))))
  (.seq (.ops [⟨(some 82), .mov (.t 6), none, false, []⟩,
    ⟨(some 4), .mov (.t 82), none, false, []⟩] none [4])
  .ret)))))
def diff_Way_r : List RRes := [.tmp 4]
def diff_Way_hi : Hi := ⟨[(6, (.st (.cons (.int .i64) (.cons (.int .i64) .nil))))], [(0, "a"), (1, "b"), (2, "a"), (3, "b"), (5, "c"), (6, "out"), (7, "i"), (8, "k")]⟩
def diff_Way_an : An := (.seq .d (.seq .d (.seq .d (.seq (.seq .d (.loop [6] [] [6] .d)) .d))))
def diff_Way_fi : Fi := ⟨83, diff_Way_c, diff_Way_r, diff_Way_an, diff_Way_hi, none⟩
theorem diff_Way_ok : FiOk Try.prog f_diff_Way diff_Way_fi :=
  ⟨fun _ => by kernel_rfl, fun _ h hlen => fun_sound (by kernel_rfl) (fn := Try.f28) (draw_sound _ _) Try.func28 rfl (by kernel_rfl : comp Try.prog 83 _ diff_Way_c = some diff_Way_c) (by kernel_rfl : cRes Try.prog Try.f28.results.toList = some diff_Way_r) hlen h, fun _ h => nomatch h⟩

/-- fustian/merge.Merge: slots [0 base, 1 a, 2 b, 3 base, 4 a, 5 b, 6 lines, 7 clashes, 8 e, 9 long, 10 _, 11 l, 12 p, 13 q, 14 at, 15 lo, 16 hi, 17 x, 18 y, 19 u, 20 v] -/
def merge_Merge_c : SCode :=
  (.seq (.ops [⟨(some 6), .newnil 1, none, false, []⟩,
    ⟨(some 7), .mov (.c (.int .i64 0)), none, false, []⟩,
    ⟨(some 8), .mov (.c (.int .i64 0)), none, false, []⟩] none [0, 1, 2, 6, 7])
  (.seq (.ops [⟨(some 9), .mov (.c (.fn (.func f_merge_Merge_1) [] [])), none, false, []⟩] none [0, 1, 2, 6, 7, 9])
  (.seq (.seq (.ops [⟨(some 21), .mov (.t 0), none, false, []⟩,
    ⟨(some 22), .mov (.t 1), none, false, []⟩,
    ⟨(some 23), .mov (.t 2), none, false, []⟩,
    ⟨(some 24), .build [.nils, .nils, .nils] [(0, 1, (.t 21)), (1, 1, (.t 22)), (2, 1, (.t 23))], none, false, []⟩,
    ⟨(some 25), .mov (.c (.int .i64 0)), none, false, []⟩] none [0, 1, 2, 6, 7, 9, 24, 25])
  (.block 0 (.loop [0, 1, 2, 9, 24] [6, 7, 25] 1
    (.seq (.ops [⟨(some 26), .bin .none .lss (.t 25) (.c (.int .i64 3)), none, false, []⟩] none [0, 1, 2, 6, 7, 9, 24, 25, 26])
    (.seq (.cond (.t 26)
      .skip
      (.exit 0))
    (.seq (.block 1 (.seq (.ops [⟨(some 27), .index 1 (some 3) false (.t 24) (.t 25), none, false, []⟩,
      ⟨(some 11), .mov (.t 27), none, false, []⟩] none [0, 1, 2, 6, 7, 9, 11, 24, 25])
    (.seq (.ops [⟨(some 28), .mov (.t 11), none, false, []⟩,
      ⟨(some 29), .len false (.t 28), none, false, []⟩,
      ⟨(some 30), .bin .none .gtr (.t 29) (.c (.int .i64 80)), none, false, []⟩,
      ⟨(some 31), .mov (.t 30), none, true, []⟩,
      ⟨(some 32), .mov (.t 11), (some (31, false)), false, []⟩,
      ⟨(some 33), .mov (.t 9), (some (31, false)), false, []⟩,
      ⟨(some 34), .call f_slices_ContainsFunc___string_string_ [(.t 32), (.t 33)], (some (31, false)), false, []⟩,
      ⟨(some 35), .pick (.t 31) (.c (.bool true)) (.t 34), none, false, []⟩] none [0, 1, 2, 6, 7, 9, 24, 25, 35])
    (.cond (.t 35)
      (.seq (.ops [⟨(some 6), .newnil 1, none, false, []⟩,
        ⟨(some 7), .mov (.c (.int .i64 0)), none, false, []⟩,
        ⟨(some 8), .mov (.c (.int .i64 1)), none, false, []⟩] none [6, 7, 8])
      .ret)
      .skip))))
    (.ops [⟨(some 36), .bin .none .add (.t 25) (.c (.int .i64 1)), none, false, []⟩,
      ⟨(some 25), .mov (.t 36), none, false, []⟩] none [0, 1, 2, 6, 7, 9, 24, 25])))))))
  (.seq (.ops [⟨(some 37), .mov (.t 0), none, false, []⟩,
    ⟨(some 38), .mov (.t 1), none, false, []⟩,
    ⟨(some 39), .call f_merge_hunks [(.t 37), (.t 38)], none, false, []⟩,
    ⟨(some 40), .build [.nils] [(0, 1, (.t 39))], none, false, []⟩,
    ⟨(some 41), .box 0 (.t 40), none, false, []⟩,
    ⟨(some 42), .mov (.t 0), none, false, []⟩,
    ⟨(some 43), .mov (.t 2), none, false, []⟩,
    ⟨(some 44), .call f_merge_hunks [(.t 42), (.t 43)], none, false, []⟩,
    ⟨(some 45), .build [.nils] [(0, 1, (.t 44))], none, false, []⟩,
    ⟨(some 46), .box 0 (.t 45), none, false, []⟩,
    ⟨(some 12), .mov (.t 41), none, false, []⟩,
    ⟨(some 13), .mov (.t 46), none, false, []⟩] none [0, 6, 7, 12, 13])
  (.seq (.ops [⟨(some 14), .mov (.c (.int .i64 0)), none, false, []⟩] none [0, 6, 7, 12, 13, 14])
  (.seq (.block 2 (.loop [0, 12, 13] [6, 7, 14] 4
    (.seq (.seq (.ops [⟨(some 47), .mov (.t 12), none, false, []⟩,
      ⟨(some 48), .nilchk (.t 47), none, false, []⟩,
      ⟨(some 49), .faddr 0 (.t 48), none, false, []⟩,
      ⟨(some 50), .load 1 false (.t 49), none, false, []⟩,
      ⟨(some 51), .len false (.t 50), none, false, []⟩,
      ⟨(some 52), .mov (.t 13), none, false, []⟩,
      ⟨(some 53), .nilchk (.t 52), none, false, []⟩,
      ⟨(some 54), .faddr 0 (.t 53), none, false, []⟩,
      ⟨(some 55), .load 1 false (.t 54), none, false, []⟩,
      ⟨(some 56), .len false (.t 55), none, false, []⟩,
      ⟨(some 57), .bin .none .add (.t 51) (.t 56), none, false, []⟩,
      ⟨(some 58), .bin .none .gtr (.t 57) (.c (.int .i64 0)), none, false, []⟩] (some (0, 0, [0, 1, 2, 3, 4, 5, 6, 7, 8, 9, 10, 11])) [0, 6, 7, 12, 13, 14, 58])
    (.cond (.t 58)
      .skip
      (.exit 2)))
    (.block 3 (.seq (.ops [⟨(some 60), .mov (.t 12), none, false, []⟩,
      ⟨(some 61), .mov (.t 13), none, false, []⟩,
      ⟨(some 62), .call f_merge_part [(.t 60), (.t 61)], none, false, []⟩,
      ⟨(some 59), .mov (.t 62), none, false, []⟩,
      ⟨(some 63), .extract (.t 59) 0, none, false, []⟩,
      ⟨(some 64), .extract (.t 59) 1, none, false, []⟩,
      ⟨(some 65), .extract (.t 59) 2, none, false, []⟩,
      ⟨(some 66), .extract (.t 59) 3, none, false, []⟩,
      ⟨(some 15), .mov (.t 63), none, false, []⟩,
      ⟨(some 16), .mov (.t 64), none, false, []⟩,
      ⟨(some 17), .mov (.t 65), none, false, []⟩,
      ⟨(some 18), .mov (.t 66), none, false, []⟩] none [0, 6, 7, 12, 13, 14, 15, 16, 17, 18])
    (.seq (.ops [⟨(some 67), .mov (.t 6), none, false, []⟩,
      ⟨(some 68), .mov (.t 0), none, false, []⟩,
      ⟨(some 69), .mov (.t 14), none, false, []⟩,
      ⟨(some 70), .mov (.t 15), none, false, []⟩,
      ⟨(some 71), .slice 1 (.t 68) (some (.t 69)) (some (.t 70)), none, false, []⟩,
      ⟨(some 72), .append 1 16 (.t 67) (.t 71), none, false, []⟩,
      ⟨(some 6), .mov (.t 72), none, false, []⟩] none [0, 6, 7, 12, 13, 15, 16, 17, 18])
    (.seq (.ops [⟨(some 73), .mov (.t 16), none, false, []⟩,
      ⟨(some 14), .mov (.t 73), none, false, []⟩] none [0, 6, 7, 12, 13, 14, 15, 16, 17, 18])
    (.seq (.ops [⟨(some 74), .mov (.t 0), none, false, []⟩,
      ⟨(some 75), .mov (.t 15), none, false, []⟩,
      ⟨(some 76), .mov (.t 16), none, false, []⟩,
      ⟨(some 77), .mov (.t 17), none, false, []⟩,
      ⟨(some 78), .call f_merge_made [(.t 74), (.t 75), (.t 76), (.t 77)], none, false, []⟩,
      ⟨(some 79), .mov (.t 0), none, false, []⟩,
      ⟨(some 80), .mov (.t 15), none, false, []⟩,
      ⟨(some 81), .mov (.t 16), none, false, []⟩,
      ⟨(some 82), .mov (.t 18), none, false, []⟩,
      ⟨(some 83), .call f_merge_made [(.t 79), (.t 80), (.t 81), (.t 82)], none, false, []⟩,
      ⟨(some 19), .mov (.t 78), none, false, []⟩,
      ⟨(some 20), .mov (.t 83), none, false, []⟩] none [0, 6, 7, 12, 13, 14, 17, 18, 19, 20])
    (.block 4 (.seq (.ops [⟨(some 100), .mov (.t 18), none, false, []⟩,
      ⟨(some 101), .len false (.t 100), none, false, []⟩,
      ⟨(some 102), .bin .none .eql (.t 101) (.c (.int .i64 0)), none, false, []⟩,
      ⟨(some 103), .mov (.t 102), none, true, []⟩,
      ⟨(some 104), .mov (.t 19), (some (103, false)), false, []⟩,
      ⟨(some 105), .mov (.t 20), (some (103, false)), false, []⟩,
      ⟨(some 106), .call f_slices_Equal___string_string_ [(.t 104), (.t 105)], (some (103, false)), false, []⟩,
      ⟨(some 107), .pick (.t 103) (.c (.bool true)) (.t 106), none, false, []⟩,
      ⟨(some 99), .mov (.t 107), none, false, []⟩] none [0, 6, 7, 12, 13, 14, 17, 19, 20, 99])
    (.cond (.t 99)
      (.ops [⟨(some 108), .mov (.t 6), none, false, []⟩,
        ⟨(some 109), .mov (.t 19), none, false, []⟩,
        ⟨(some 110), .append 1 16 (.t 108) (.t 109), none, false, []⟩,
        ⟨(some 6), .mov (.t 110), none, false, []⟩] none [0, 6, 7, 12, 13, 14])
      (.seq (.ops [⟨(some 112), .mov (.t 17), none, false, []⟩,
        ⟨(some 113), .len false (.t 112), none, false, []⟩,
        ⟨(some 114), .bin .none .eql (.t 113) (.c (.int .i64 0)), none, false, []⟩,
        ⟨(some 111), .mov (.t 114), none, false, []⟩] none [0, 6, 7, 12, 13, 14, 19, 20, 111])
      (.cond (.t 111)
        (.ops [⟨(some 115), .mov (.t 6), none, false, []⟩,
          ⟨(some 116), .mov (.t 20), none, false, []⟩,
          ⟨(some 117), .append 1 16 (.t 115) (.t 116), none, false, []⟩,
          ⟨(some 6), .mov (.t 117), none, false, []⟩] none [0, 6, 7, 12, 13, 14])
        (.seq (.ops [⟨(some 84), .mov (.t 7), none, false, []⟩,
          ⟨(some 85), .bin .none .add (.t 84) (.c (.int .i64 1)), none, false, []⟩,
          ⟨(some 7), .mov (.t 85), none, false, []⟩] none [0, 6, 7, 12, 13, 14, 19, 20])
        (.seq (.ops [⟨(some 86), .mov (.t 6), none, false, []⟩,
          ⟨(some 87), .bslice true 1 1 [(.str [])] [(0, 1, (.c (.str [60, 60, 60, 60, 60, 60, 60])))], none, false, []⟩,
          ⟨(some 88), .append 1 16 (.t 86) (.t 87), none, false, []⟩,
          ⟨(some 89), .mov (.t 19), none, false, []⟩,
          ⟨(some 90), .append 1 16 (.t 88) (.t 89), none, false, []⟩,
          ⟨(some 6), .mov (.t 90), none, false, []⟩] none [0, 6, 7, 12, 13, 14, 20])
        (.seq (.ops [⟨(some 91), .mov (.t 6), none, false, []⟩,
          ⟨(some 92), .bslice true 1 1 [(.str [])] [(0, 1, (.c (.str [61, 61, 61, 61, 61, 61, 61])))], none, false, []⟩,
          ⟨(some 93), .append 1 16 (.t 91) (.t 92), none, false, []⟩,
          ⟨(some 94), .mov (.t 20), none, false, []⟩,
          ⟨(some 95), .append 1 16 (.t 93) (.t 94), none, false, []⟩,
          ⟨(some 6), .mov (.t 95), none, false, []⟩] none [0, 6, 7, 12, 13, 14])
        (.ops [⟨(some 96), .mov (.t 6), none, false, []⟩,
          ⟨(some 97), .bslice true 1 1 [(.str [])] [(0, 1, (.c (.str [62, 62, 62, 62, 62, 62, 62])))], none, false, []⟩,
          ⟨(some 98), .append 1 16 (.t 96) (.t 97), none, false, []⟩,
          ⟨(some 6), .mov (.t 98), none, false, []⟩] none [0, 6, 7, 12, 13, 14])))))))))))))))))
  (.seq (.ops [⟨(some 118), .mov (.t 6), none, false, []⟩,
    ⟨(some 119), .mov (.t 0), none, false, []⟩,
    ⟨(some 120), .mov (.t 14), none, false, []⟩,
    ⟨(some 121), .slice 1 (.t 119) (some (.t 120)) none, none, false, []⟩,
    ⟨(some 122), .append 1 16 (.t 118) (.t 121), none, false, []⟩,
    ⟨(some 123), .mov (.t 7), none, false, []⟩,
    ⟨(some 6), .mov (.t 122), none, false, []⟩,
    ⟨(some 7), .mov (.t 123), none, false, []⟩,
    ⟨(some 8), .mov (.c (.int .i64 0)), none, false, []⟩] none [6, 7, 8])
  .ret)))))))
def merge_Merge_r : List RRes := [.tmp 6, .tmp 7, .tmp 8]
def merge_Merge_hi : Hi := ⟨[(6, .str), (72, .str), (110, .str), (117, .str), (87, .str), (88, .str), (90, .str), (92, .str), (93, .str), (95, .str), (97, .str), (98, .str), (122, .str), (41, (.st (.cons (.sl (.st (.cons (.int .i64) (.cons (.int .i64) (.cons (.sl .str) .nil))))) .nil))), (46, (.st (.cons (.sl (.st (.cons (.int .i64) (.cons (.int .i64) (.cons (.sl .str) .nil))))) .nil))), (12, (.st (.cons (.sl (.st (.cons (.int .i64) (.cons (.int .i64) (.cons (.sl .str) .nil))))) .nil))), (13, (.st (.cons (.sl (.st (.cons (.int .i64) (.cons (.int .i64) (.cons (.sl .str) .nil))))) .nil))), (47, (.st (.cons (.sl (.st (.cons (.int .i64) (.cons (.int .i64) (.cons (.sl .str) .nil))))) .nil))), (52, (.st (.cons (.sl (.st (.cons (.int .i64) (.cons (.int .i64) (.cons (.sl .str) .nil))))) .nil))), (60, (.st (.cons (.sl (.st (.cons (.int .i64) (.cons (.int .i64) (.cons (.sl .str) .nil))))) .nil))), (61, (.st (.cons (.sl (.st (.cons (.int .i64) (.cons (.int .i64) (.cons (.sl .str) .nil))))) .nil)))], [(0, "base"), (1, "a"), (2, "b"), (3, "base"), (4, "a"), (5, "b"), (6, "lines"), (7, "clashes"), (8, "e"), (9, "long"), (11, "l"), (12, "p"), (13, "q"), (14, "at"), (15, "lo"), (16, "hi"), (17, "x"), (18, "y"), (19, "u"), (20, "v")]⟩
def merge_Merge_an : An := (.seq .d (.seq .d (.seq (.seq .d (.loop [9] [] [] .d)) (.seq .d (.seq .d (.seq (.loop [12, 13, 6, 0] [] [] .d) .d))))))
def merge_Merge_fi : Fi := ⟨124, merge_Merge_c, merge_Merge_r, merge_Merge_an, merge_Merge_hi, none⟩
theorem merge_Merge_ok : FiOk Try.prog f_merge_Merge merge_Merge_fi :=
  ⟨fun _ => by kernel_rfl, fun _ h hlen => fun_sound (by kernel_rfl) (fn := Try.f5) (draw_sound _ _) Try.func5 rfl (by kernel_rfl : comp Try.prog 124 _ merge_Merge_c = some merge_Merge_c) (by kernel_rfl : cRes Try.prog Try.f5.results.toList = some merge_Merge_r) hlen h, fun _ h => nomatch h⟩

/-- fustian/fustiantop.sameTexts: slots [0 a, 1 b, 2 a, 3 b, 5 i] -/
def top_sameTexts_c : SCode :=
  (.seq (.ops [⟨(some 4), .mov (.c (.bool false)), none, false, []⟩] none [0, 1])
  (.seq (.seq (.ops [⟨(some 6), .mov (.t 0), none, false, []⟩,
    ⟨(some 7), .len false (.t 6), none, false, []⟩,
    ⟨(some 8), .mov (.t 1), none, false, []⟩,
    ⟨(some 9), .len false (.t 8), none, false, []⟩,
    ⟨(some 10), .bin .none .neq (.t 7) (.t 9), none, false, []⟩] none [0, 1, 10])
  (.cond (.t 10)
    (.seq (.ops [⟨(some 4), .mov (.c (.bool false)), none, false, []⟩] none [4])
    .ret)
    .skip))
  (.seq (.seq (.ops [⟨(some 5), .mov (.c (.int .i64 0)), none, false, []⟩] none [0, 1, 5])
  (.block 0 (.loop [0, 1] [5] 0
    (.seq (.seq (.ops [⟨(some 11), .mov (.t 5), none, false, []⟩,
      ⟨(some 12), .mov (.t 0), none, false, []⟩,
      ⟨(some 13), .len false (.t 12), none, false, []⟩,
      ⟨(some 14), .bin .none .lss (.t 11) (.t 13), none, false, []⟩] none [0, 1, 5, 14])
    (.cond (.t 14)
      .skip
      (.exit 0)))
    (.seq (.block 1 (.seq (.ops [⟨(some 17), .mov (.t 0), none, false, []⟩,
      ⟨(some 18), .mov (.t 5), none, false, []⟩,
      ⟨(some 19), .iaddr 1 none (.t 17) (.t 18), none, false, []⟩,
      ⟨(some 20), .load 1 false (.t 19), none, false, []⟩,
      ⟨(some 21), .mov (.t 1), none, false, []⟩,
      ⟨(some 22), .mov (.t 5), none, false, []⟩,
      ⟨(some 23), .iaddr 1 none (.t 21) (.t 22), none, false, []⟩,
      ⟨(some 24), .load 1 false (.t 23), none, false, []⟩,
      ⟨(some 25), .bin .none .neq (.t 20) (.t 24), none, false, []⟩] (some (0, 0, [0, 1, 2, 3, 4, 5, 6, 7, 8])) [0, 1, 5, 25])
    (.cond (.t 25)
      (.seq (.ops [⟨(some 4), .mov (.c (.bool false)), none, false, []⟩] none [4])
      .ret)
      .skip)))
    (.ops [⟨(some 15), .mov (.t 5), none, false, []⟩,
      ⟨(some 16), .bin .none .add (.t 15) (.c (.int .i64 1)), none, false, []⟩,
      ⟨(some 5), .mov (.t 16), none, false, []⟩] none [0, 1, 5]))))))
  (.seq (.ops [⟨(some 4), .mov (.c (.bool true)), none, false, []⟩] none [4])
  .ret))))
def top_sameTexts_r : List RRes := [.tmp 4]
def top_sameTexts_hi : Hi := ⟨[], [(0, "a"), (1, "b"), (2, "a"), (3, "b"), (5, "i")]⟩
def top_sameTexts_an : An := (.seq .d (.seq .d (.seq (.seq .d (.loop [] [] [] .d)) .d)))
def top_sameTexts_fi : Fi := ⟨26, top_sameTexts_c, top_sameTexts_r, top_sameTexts_an, top_sameTexts_hi, none⟩
theorem top_sameTexts_ok : FiOk Try.prog f_top_sameTexts top_sameTexts_fi :=
  ⟨fun _ => by kernel_rfl, fun _ h hlen => fun_sound (by kernel_rfl) (fn := Try.f14) (draw_sound _ _) Try.func14 rfl (by kernel_rfl : comp Try.prog 26 _ top_sameTexts_c = some top_sameTexts_c) (by kernel_rfl : cRes Try.prog Try.f14.results.toList = some top_sameTexts_r) hlen h, fun _ h => nomatch h⟩

/-- fustian/fustiantop.TopMerge: slots [0 text, 1 at, 2 put, 3 text, 4 at, 5 put, 7 s, 8 k, 9 t, 10 e, 11 a, 12 b, 13 c, 14 f, 15 m, 16 n, 17 g, 18 want] -/
def top_TopMerge_c : SCode :=
  (.seq (.ops [⟨(some 6), .mov (.c (.bool false)), none, false, []⟩] none [0, 1, 2])
  (.seq (.ops [⟨(some 19), .mov (.t 0), none, false, []⟩,
    ⟨(some 20), .call f_keep_TextOf [(.t 19), (.c (.int .i64 80))], none, false, []⟩,
    ⟨(some 7), .mov (.t 20), none, false, []⟩] none [1, 2, 7])
  (.seq (.ops [⟨(some 21), .mov (.t 1), none, false, []⟩,
    ⟨(some 22), .mov (.t 7), none, false, []⟩,
    ⟨(some 23), .len true (.t 22), none, false, []⟩,
    ⟨(some 24), .bin .none .add (.t 23) (.c (.int .i64 1)), none, false, []⟩,
    ⟨(some 25), .call f_keep_Picked [(.t 21), (.t 24)], none, false, []⟩,
    ⟨(some 8), .mov (.t 25), none, false, []⟩] none [2, 7, 8])
  (.seq (.ops [⟨(some 27), .mov (.t 7), none, false, []⟩,
    ⟨(some 28), .mov (.t 8), none, false, []⟩,
    ⟨(some 29), .mov (.t 2), none, false, []⟩,
    ⟨(some 30), .call f_keep_Few [(.t 29), (.c (.int .i64 5))], none, false, []⟩,
    ⟨(some 31), .build [(.int .i64 0), (.int .i64 0), (.str [])] [(0, 1, (.t 28)), (2, 1, (.t 30))], none, false, []⟩,
    ⟨(some 32), .bslice true 1 3 [(.int .i64 0), (.int .i64 0), (.str [])] [(0, 3, (.t 31))], none, false, []⟩,
    ⟨(some 33), .call f_edit_Apply [(.t 27), (.t 32)], none, false, []⟩,
    ⟨(some 26), .mov (.t 33), none, false, []⟩,
    ⟨(some 34), .extract (.t 26) 0, none, false, []⟩,
    ⟨(some 35), .extract (.t 26) 1, none, false, []⟩,
    ⟨(some 9), .mov (.t 34), none, false, []⟩,
    ⟨(some 10), .mov (.t 35), none, false, []⟩] none [7, 9, 10])
  (.seq (.ops [⟨(some 36), .mov (.t 7), none, false, []⟩,
    ⟨(some 37), .call f_top_cutText [(.t 36)], none, false, []⟩,
    ⟨(some 11), .mov (.t 37), none, false, []⟩] none [7, 9, 10, 11])
  (.seq (.ops [⟨(some 38), .mov (.t 9), none, false, []⟩,
    ⟨(some 39), .call f_top_cutText [(.t 38)], none, false, []⟩,
    ⟨(some 12), .mov (.t 39), none, false, []⟩] none [7, 9, 10, 11, 12])
  (.seq (.seq (.ops [⟨(some 40), .mov (.t 11), none, false, []⟩,
    ⟨(some 41), .len false (.t 40), none, false, []⟩,
    ⟨(some 42), .bin .none .gtr (.t 41) (.c (.int .i64 80)), none, false, []⟩,
    ⟨(some 43), .mov (.t 42), none, true, []⟩,
    ⟨(some 44), .mov (.t 10), (some (43, false)), false, []⟩,
    ⟨(some 45), .bin .none .neq (.t 44) (.c (.int .i64 0)), (some (43, false)), false, []⟩,
    ⟨(some 46), .pick (.t 43) (.c (.bool true)) (.t 45), none, false, []⟩] none [7, 9, 10, 11, 12, 46])
  (.cond (.t 46)
    (.seq (.ops [⟨(some 47), .mov (.t 10), none, false, []⟩,
      ⟨(some 48), .bin .none .eql (.t 47) (.c (.int .i64 0)), none, false, []⟩,
      ⟨(some 49), .mov (.t 48), none, true, []⟩,
      ⟨(some 50), .mov (.t 11), (some (49, true)), false, []⟩,
      ⟨(some 51), .len false (.t 50), (some (49, true)), false, []⟩,
      ⟨(some 52), .mov (.t 7), (some (49, true)), false, []⟩,
      ⟨(some 53), .len true (.t 52), (some (49, true)), false, []⟩,
      ⟨(some 54), .bin .none .add (.t 53) (.c (.int .i64 1)), (some (49, true)), false, []⟩,
      ⟨(some 55), .bin .none .eql (.t 51) (.t 54), (some (49, true)), false, []⟩,
      ⟨(some 56), .pick (.t 49) (.t 55) (.c (.bool false)), none, false, []⟩,
      ⟨(some 6), .mov (.t 56), none, false, []⟩] none [6])
    .ret)
    .skip))
  (.seq (.ops [⟨(some 58), .mov (.t 11), none, false, []⟩,
    ⟨(some 59), .mov (.t 12), none, false, []⟩,
    ⟨(some 60), .call f_diff_Cost [(.t 58), (.t 59)], none, false, []⟩,
    ⟨(some 57), .mov (.t 60), none, false, []⟩,
    ⟨(some 61), .extract (.t 57) 0, none, false, []⟩,
    ⟨(some 62), .extract (.t 57) 1, none, false, []⟩,
    ⟨(some 13), .mov (.t 61), none, false, []⟩,
    ⟨(some 14), .mov (.t 62), none, false, []⟩] none [7, 9, 11, 12, 13, 14])
  (.seq (.ops [⟨(some 64), .mov (.t 11), none, false, []⟩,
    ⟨(some 65), .mov (.t 12), none, false, []⟩,
    ⟨(some 66), .mov (.t 11), none, false, []⟩,
    ⟨(some 67), .call f_merge_Merge [(.t 64), (.t 65), (.t 66)], none, false, []⟩,
    ⟨(some 63), .mov (.t 67), none, false, []⟩,
    ⟨(some 68), .extract (.t 63) 0, none, false, []⟩,
    ⟨(some 69), .extract (.t 63) 1, none, false, []⟩,
    ⟨(some 70), .extract (.t 63) 2, none, false, []⟩,
    ⟨(some 15), .mov (.t 68), none, false, []⟩,
    ⟨(some 16), .mov (.t 69), none, false, []⟩,
    ⟨(some 17), .mov (.t 70), none, false, []⟩] none [7, 9, 11, 12, 13, 14, 15, 16, 17])
  (.seq (.ops [⟨(some 18), .mov (.c (.int .i64 2)), none, false, []⟩] none [7, 9, 11, 12, 13, 14, 15, 16, 17, 18])
  (.join [11, 12, 13, 14, 15, 16, 17] [18] 0 (.seq (.ops [⟨(some 71), .mov (.t 7), none, false, []⟩,
      ⟨(some 72), .mov (.t 9), none, false, []⟩,
      ⟨(some 73), .bin .none .eql (.t 71) (.t 72), none, false, []⟩] none [11, 12, 13, 14, 15, 16, 17, 18, 73])
    (.cond (.t 73)
      (.ops [⟨(some 18), .mov (.c (.int .i64 0)), none, false, []⟩] none [11, 12, 13, 14, 15, 16, 17, 18])
      .skip))
  (.seq (.ops [⟨(some 74), .mov (.t 14), none, false, []⟩,
    ⟨(some 75), .bin .none .eql (.t 74) (.c (.int .i64 0)), none, false, []⟩,
    ⟨(some 76), .mov (.t 75), none, true, []⟩,
    ⟨(some 77), .mov (.t 17), (some (76, true)), false, []⟩,
    ⟨(some 78), .bin .none .eql (.t 77) (.c (.int .i64 0)), (some (76, true)), false, []⟩,
    ⟨(some 79), .pick (.t 76) (.t 78) (.c (.bool false)), none, false, []⟩,
    ⟨(some 80), .mov (.t 79), none, true, []⟩,
    ⟨(some 81), .mov (.t 16), (some (80, true)), false, []⟩,
    ⟨(some 82), .bin .none .eql (.t 81) (.c (.int .i64 0)), (some (80, true)), false, []⟩,
    ⟨(some 83), .pick (.t 80) (.t 82) (.c (.bool false)), none, false, []⟩,
    ⟨(some 84), .mov (.t 83), none, true, []⟩,
    ⟨(some 85), .mov (.t 13), (some (84, true)), false, []⟩,
    ⟨(some 86), .mov (.t 18), (some (84, true)), false, []⟩,
    ⟨(some 87), .bin .none .eql (.t 85) (.t 86), (some (84, true)), false, []⟩,
    ⟨(some 88), .pick (.t 84) (.t 87) (.c (.bool false)), none, false, []⟩,
    ⟨(some 89), .mov (.t 88), none, true, []⟩,
    ⟨(some 90), .mov (.t 15), (some (89, true)), false, []⟩,
    ⟨(some 91), .mov (.t 12), (some (89, true)), false, []⟩,
    ⟨(some 92), .call f_top_sameTexts [(.t 90), (.t 91)], (some (89, true)), false, []⟩,
    ⟨(some 93), .pick (.t 89) (.t 92) (.c (.bool false)), none, false, []⟩,
    ⟨(some 94), .mov (.t 93), none, true, []⟩,
    ⟨(some 95), .mov (.t 11), (some (94, true)), false, []⟩,
    ⟨(some 96), .len false (.t 95), (some (94, true)), false, []⟩,
    ⟨(some 97), .mov (.t 12), (some (94, true)), false, []⟩,
    ⟨(some 98), .len false (.t 97), (some (94, true)), false, []⟩,
    ⟨(some 99), .bin .none .eql (.t 96) (.t 98), (some (94, true)), false, []⟩,
    ⟨(some 100), .pick (.t 94) (.t 99) (.c (.bool false)), none, false, []⟩,
    ⟨(some 6), .mov (.t 100), none, false, []⟩] none [6])
  .ret))))))))))))
def top_TopMerge_r : List RRes := [.tmp 6]
def top_TopMerge_hi : Hi := ⟨[(32, (.st (.cons (.int .i64) (.cons (.int .i64) (.cons .str .nil)))))], [(0, "text"), (1, "at"), (2, "put"), (3, "text"), (4, "at"), (5, "put"), (7, "s"), (8, "k"), (9, "t"), (10, "e"), (11, "a"), (12, "b"), (13, "c"), (14, "f"), (15, "m"), (16, "n"), (17, "g"), (18, "want")]⟩
def top_TopMerge_an : An := .d
def top_TopMerge_fi : Fi := ⟨101, top_TopMerge_c, top_TopMerge_r, top_TopMerge_an, top_TopMerge_hi, none⟩
theorem top_TopMerge_ok : FiOk Try.prog f_top_TopMerge top_TopMerge_fi :=
  ⟨fun _ => by kernel_rfl, fun _ h hlen => fun_sound (by kernel_rfl) (fn := Try.f4) (draw_sound _ _) Try.func4 rfl (by kernel_rfl : comp Try.prog 101 _ top_TopMerge_c = some top_TopMerge_c) (by kernel_rfl : cRes Try.prog Try.f4.results.toList = some top_TopMerge_r) hlen h, fun _ h => nomatch h⟩

/-- slices.ContainsFunc[[]string,string]: slots [0 s, 1 f, 2 s, 3 f] -/
def slices_ContainsFunc___string_string__c : SCode :=
  (.seq (.ops [⟨(some 4), .mov (.c (.bool false)), none, false, []⟩] none [0, 1])
  (.seq (.ops [⟨(some 5), .mov (.t 0), none, false, []⟩,
    ⟨(some 6), .mov (.t 1), none, false, []⟩,
    ⟨(some 7), .call f_slices_IndexFunc___string_string_ [(.t 5), (.t 6)], none, false, []⟩,
    ⟨(some 8), .bin .none .geq (.t 7) (.c (.int .i64 0)), none, false, []⟩,
    ⟨(some 4), .mov (.t 8), none, false, []⟩] none [4])
  .ret))
def slices_ContainsFunc___string_string__r : List RRes := [.tmp 4]
def slices_ContainsFunc___string_string__hi : Hi := ⟨[], [(0, "s"), (1, "f"), (2, "s"), (3, "f")]⟩
def slices_ContainsFunc___string_string__an : An := .d
def slices_ContainsFunc___string_string__fi : Fi := ⟨9, slices_ContainsFunc___string_string__c, slices_ContainsFunc___string_string__r, slices_ContainsFunc___string_string__an, slices_ContainsFunc___string_string__hi, none⟩
theorem slices_ContainsFunc___string_string__ok : FiOk Try.prog f_slices_ContainsFunc___string_string_ slices_ContainsFunc___string_string__fi :=
  ⟨fun _ => by kernel_rfl, fun _ h hlen => fun_sound (by kernel_rfl) (fn := Try.f16) (draw_sound _ _) Try.func16 rfl (by kernel_rfl : comp Try.prog 9 _ slices_ContainsFunc___string_string__c = some slices_ContainsFunc___string_string__c) (by kernel_rfl : cRes Try.prog Try.f16.results.toList = some slices_ContainsFunc___string_string__r) hlen h, fun _ h => nomatch h⟩

/-- slices.IndexFunc[[]string,string]: slots [0 s, 1 f, 2 s, 3 f, 5 i] -/
def slices_IndexFunc___string_string__c : SCode :=
  (.seq (.ops [⟨(some 4), .mov (.c (.int .i64 0)), none, false, []⟩] none [0, 1])
  (.seq (.seq (.ops [⟨(some 6), .mov (.t 0), none, false, []⟩,
    ⟨(some 7), .len false (.t 6), none, false, []⟩,
    ⟨(some 8), .mov (.c (.int .i64 0)), none, false, []⟩] none [0, 1, 7, 8])
  (.block 0 (.loop [0, 1, 7] [8] 0
    (.seq (.ops [⟨(some 9), .bin .none .lss (.t 8) (.t 7), none, false, []⟩] none [0, 1, 7, 8, 9])
    (.seq (.cond (.t 9)
      .skip
      (.exit 0))
    (.seq (.block 1 (.seq (.ops [⟨(some 10), .mov (.t 8), none, false, []⟩,
      ⟨(some 5), .mov (.t 10), none, false, []⟩] none [0, 1, 5, 7, 8])
    (.seq (.ops [⟨(some 11), .mov (.t 1), none, false, []⟩,
      ⟨(some 12), .mov (.t 0), none, false, []⟩,
      ⟨(some 13), .mov (.t 5), none, false, []⟩,
      ⟨(some 14), .iaddr 1 none (.t 12) (.t 13), none, false, []⟩,
      ⟨(some 15), .load 1 false (.t 14), none, false, []⟩,
      ⟨(some 16), .callv (.t 11) [(.t 15)], none, false, []⟩] none [0, 1, 5, 7, 8, 16])
    (.cond (.t 16)
      (.seq (.ops [⟨(some 17), .mov (.t 5), none, false, []⟩,
        ⟨(some 4), .mov (.t 17), none, false, []⟩] none [4])
      .ret)
      .skip))))
    (.ops [⟨(some 18), .bin .none .add (.t 8) (.c (.int .i64 1)), none, false, []⟩,
      ⟨(some 8), .mov (.t 18), none, false, []⟩] none [0, 1, 7, 8])))))))
  (.seq (.ops [⟨(some 4), .mov (.c (.int .i64 (-1))), none, false, []⟩] none [4])
  .ret)))
def slices_IndexFunc___string_string__r : List RRes := [.tmp 4]
def slices_IndexFunc___string_string__hi : Hi := ⟨[], [(0, "s"), (1, "f"), (2, "s"), (3, "f"), (5, "i")]⟩
def slices_IndexFunc___string_string__an : An := (.seq .d (.seq (.seq .d (.loop [1] [] [] .d)) .d))
def slices_IndexFunc___string_string__fi : Fi := ⟨19, slices_IndexFunc___string_string__c, slices_IndexFunc___string_string__r, slices_IndexFunc___string_string__an, slices_IndexFunc___string_string__hi, none⟩
theorem slices_IndexFunc___string_string__ok : FiOk Try.prog f_slices_IndexFunc___string_string_ slices_IndexFunc___string_string__fi :=
  ⟨fun _ => by kernel_rfl, fun _ h hlen => fun_sound (by kernel_rfl) (fn := Try.f27) (draw_sound _ _) Try.func27 rfl (by kernel_rfl : comp Try.prog 19 _ slices_IndexFunc___string_string__c = some slices_IndexFunc___string_string__c) (by kernel_rfl : cRes Try.prog Try.f27.results.toList = some slices_IndexFunc___string_string__r) hlen h, fun _ h => nomatch h⟩

/-- fustian/diff.fault$1: slots [0 s, 1 s] -/
def diff_fault_1_c : SCode :=
  (.seq (.ops [⟨(some 2), .mov (.c (.bool false)), none, false, []⟩] none [0])
  (.seq (.ops [⟨(some 3), .mov (.t 0), none, false, []⟩,
    ⟨(some 4), .len true (.t 3), none, false, []⟩,
    ⟨(some 5), .bin .none .gtr (.t 4) (.c (.int .i64 600)), none, false, []⟩,
    ⟨(some 2), .mov (.t 5), none, false, []⟩] none [2])
  .ret))
def diff_fault_1_r : List RRes := [.tmp 2]
def diff_fault_1_hi : Hi := ⟨[], [(0, "s"), (1, "s")]⟩
def diff_fault_1_an : An := .d
def diff_fault_1_fi : Fi := ⟨6, diff_fault_1_c, diff_fault_1_r, diff_fault_1_an, diff_fault_1_hi, none⟩
theorem diff_fault_1_ok : FiOk Try.prog f_diff_fault_1 diff_fault_1_fi :=
  ⟨fun _ => by kernel_rfl, fun _ h hlen => fun_sound (by kernel_rfl) (fn := Try.f34) (draw_sound _ _) Try.func34 rfl (by kernel_rfl : comp Try.prog 6 _ diff_fault_1_c = some diff_fault_1_c) (by kernel_rfl : cRes Try.prog Try.f34.results.toList = some diff_fault_1_r) hlen h, fun _ h => nomatch h⟩

/-- fustian/diff.costs: slots [0 a, 1 b, 2 a, 3 b, 5 out, 6 i, 7 k] -/
def diff_costs_c : SCode :=
  (.seq (.ops [⟨(some 4), .mov (.c .nils), none, false, []⟩] none [0, 1])
  (.seq (.ops [⟨(some 8), .mov (.t 0), none, false, []⟩,
    ⟨(some 9), .len false (.t 8), none, false, []⟩,
    ⟨(some 10), .bin .none .add (.t 9) (.c (.int .i64 1)), none, false, []⟩,
    ⟨(some 11), .mkslice 1 24 [.nils] (.t 10) (.t 10), none, false, []⟩,
    ⟨(some 5), .mov (.t 11), none, false, []⟩] none [0, 1, 5])
  (.seq (.seq (.ops [⟨(some 12), .mov (.t 0), none, false, []⟩,
    ⟨(some 13), .len false (.t 12), none, false, []⟩,
    ⟨(some 6), .mov (.t 13), none, false, []⟩] none [0, 1, 5, 6])
  (.block 0 (.loop [0, 1, 5] [6] 1
    (.seq (.seq (.ops [⟨(some 14), .mov (.t 6), none, false, []⟩,
      ⟨(some 15), .bin .none .geq (.t 14) (.c (.int .i64 0)), none, false, []⟩] none [0, 1, 5, 6, 15])
    (.cond (.t 15)
      .skip
      (.exit 0)))
    (.seq (.block 1 (.seq (.ops [⟨(some 18), .mov (.t 5), none, false, []⟩,
      ⟨(some 19), .mov (.t 6), none, false, []⟩,
      ⟨(some 20), .mov (.t 1), none, false, []⟩,
      ⟨(some 21), .len false (.t 20), none, false, []⟩,
      ⟨(some 22), .bin .none .add (.t 21) (.c (.int .i64 1)), none, false, []⟩,
      ⟨(some 23), .mkslice 1 8 [(.int .i64 0)] (.t 22) (.t 22), none, false, []⟩,
      ⟨(some 24), .iaddr 1 none (.t 18) (.t 19), none, false, []⟩,
      ⟨none, .store 1 (.t 24) (.t 23), none, false, []⟩] none [0, 1, 5, 6])
    (.seq (.ops [⟨(some 25), .mov (.t 1), none, false, []⟩,
      ⟨(some 26), .len false (.t 25), none, false, []⟩,
      ⟨(some 7), .mov (.t 26), none, false, []⟩] none [0, 1, 5, 6, 7])
    (.block 2 (.loop [0, 1, 5, 6] [7] 2
      (.seq (.seq (.ops [⟨(some 27), .mov (.t 7), none, false, []⟩,
        ⟨(some 28), .bin .none .geq (.t 27) (.c (.int .i64 0)), none, false, []⟩] none [0, 1, 5, 6, 7, 28])
      (.cond (.t 28)
        .skip
        (.exit 2)))
      (.join [0, 1, 5, 6, 7] [] 2 (.block 3 (.block 4 (.seq (.ops [⟨(some 56), .mov (.t 6), none, false, []⟩,
          ⟨(some 57), .mov (.t 0), none, false, []⟩,
          ⟨(some 58), .len false (.t 57), none, false, []⟩,
          ⟨(some 59), .bin .none .eql (.t 56) (.t 58), none, false, []⟩,
          ⟨(some 55), .mov (.t 59), none, false, []⟩] none [0, 1, 5, 6, 7, 55])
        (.cond (.t 55)
          (.ops [⟨(some 60), .mov (.t 5), none, false, []⟩,
            ⟨(some 61), .mov (.t 6), none, false, []⟩,
            ⟨(some 62), .iaddr 1 none (.t 60) (.t 61), none, false, []⟩,
            ⟨(some 63), .load 1 false (.t 62), none, false, []⟩,
            ⟨(some 64), .mov (.t 7), none, false, []⟩,
            ⟨(some 65), .mov (.t 1), none, false, []⟩,
            ⟨(some 66), .len false (.t 65), none, false, []⟩,
            ⟨(some 67), .mov (.t 7), none, false, []⟩,
            ⟨(some 68), .bin .none .sub (.t 66) (.t 67), none, false, []⟩,
            ⟨(some 69), .iaddr 1 none (.t 63) (.t 64), none, false, []⟩,
            ⟨none, .store 1 (.t 69) (.t 68), none, false, []⟩] none [0, 1, 5, 6, 7])
          (.seq (.ops [⟨(some 71), .mov (.t 7), none, false, []⟩,
            ⟨(some 72), .mov (.t 1), none, false, []⟩,
            ⟨(some 73), .len false (.t 72), none, false, []⟩,
            ⟨(some 74), .bin .none .eql (.t 71) (.t 73), none, false, []⟩,
            ⟨(some 70), .mov (.t 74), none, false, []⟩] none [0, 1, 5, 6, 7, 70])
          (.cond (.t 70)
            (.ops [⟨(some 75), .mov (.t 5), none, false, []⟩,
              ⟨(some 76), .mov (.t 6), none, false, []⟩,
              ⟨(some 77), .iaddr 1 none (.t 75) (.t 76), none, false, []⟩,
              ⟨(some 78), .load 1 false (.t 77), none, false, []⟩,
              ⟨(some 79), .mov (.t 7), none, false, []⟩,
              ⟨(some 80), .mov (.t 0), none, false, []⟩,
              ⟨(some 81), .len false (.t 80), none, false, []⟩,
              ⟨(some 82), .mov (.t 6), none, false, []⟩,
              ⟨(some 83), .bin .none .sub (.t 81) (.t 82), none, false, []⟩,
              ⟨(some 84), .iaddr 1 none (.t 78) (.t 79), none, false, []⟩,
              ⟨none, .store 1 (.t 84) (.t 83), none, false, []⟩] none [0, 1, 5, 6, 7])
            (.seq (.ops [⟨(some 86), .mov (.t 0), none, false, []⟩,
              ⟨(some 87), .mov (.t 6), none, false, []⟩,
              ⟨(some 88), .iaddr 1 none (.t 86) (.t 87), none, false, []⟩,
              ⟨(some 89), .load 1 false (.t 88), none, false, []⟩,
              ⟨(some 90), .mov (.t 1), none, false, []⟩,
              ⟨(some 91), .mov (.t 7), none, false, []⟩,
              ⟨(some 92), .iaddr 1 none (.t 90) (.t 91), none, false, []⟩,
              ⟨(some 93), .load 1 false (.t 92), none, false, []⟩,
              ⟨(some 94), .bin .none .eql (.t 89) (.t 93), none, false, []⟩,
              ⟨(some 85), .mov (.t 94), none, false, []⟩] (some (0, 0, [0, 1, 2, 3, 4, 5, 6, 7, 8, 9])) [0, 1, 5, 6, 7, 85])
            (.cond (.t 85)
              (.ops [⟨(some 95), .mov (.t 5), none, false, []⟩,
                ⟨(some 96), .mov (.t 6), none, false, []⟩,
                ⟨(some 97), .iaddr 1 none (.t 95) (.t 96), none, false, []⟩,
                ⟨(some 98), .load 1 false (.t 97), none, false, []⟩,
                ⟨(some 99), .mov (.t 7), none, false, []⟩,
                ⟨(some 100), .mov (.t 5), none, false, []⟩,
                ⟨(some 101), .mov (.t 6), none, false, []⟩,
                ⟨(some 102), .bin .none .add (.t 101) (.c (.int .i64 1)), none, false, []⟩,
                ⟨(some 103), .iaddr 1 none (.t 100) (.t 102), none, false, []⟩,
                ⟨(some 104), .load 1 false (.t 103), none, false, []⟩,
                ⟨(some 105), .mov (.t 7), none, false, []⟩,
                ⟨(some 106), .bin .none .add (.t 105) (.c (.int .i64 1)), none, false, []⟩,
                ⟨(some 107), .iaddr 1 none (.t 104) (.t 106), none, false, []⟩,
                ⟨(some 108), .load 1 false (.t 107), none, false, []⟩,
                ⟨(some 109), .iaddr 1 none (.t 98) (.t 99), none, false, []⟩,
                ⟨none, .store 1 (.t 109) (.t 108), none, false, []⟩] (some (0, 0, [0, 1, 2, 3, 4, 5, 6, 7, 8, 9, 10, 11, 12, 13, 14, 15])) [0, 1, 5, 6, 7])
              (.ops [⟨(some 31), .mov (.t 5), none, false, []⟩,
                ⟨(some 32), .mov (.t 6), none, false, []⟩,
                ⟨(some 33), .iaddr 1 none (.t 31) (.t 32), none, false, []⟩,
                ⟨(some 34), .load 1 false (.t 33), none, false, []⟩,
                ⟨(some 35), .mov (.t 7), none, false, []⟩,
                ⟨(some 36), .mov (.t 5), none, false, []⟩,
                ⟨(some 37), .mov (.t 6), none, false, []⟩,
                ⟨(some 38), .bin .none .add (.t 37) (.c (.int .i64 1)), none, false, []⟩,
                ⟨(some 39), .iaddr 1 none (.t 36) (.t 38), none, false, []⟩,
                ⟨(some 40), .load 1 false (.t 39), none, false, []⟩,
                ⟨(some 41), .mov (.t 7), none, false, []⟩,
                ⟨(some 42), .iaddr 1 none (.t 40) (.t 41), none, false, []⟩,
                ⟨(some 43), .load 1 false (.t 42), none, false, []⟩,
                ⟨(some 44), .mov (.t 5), none, false, []⟩,
                ⟨(some 45), .mov (.t 6), none, false, []⟩,
                ⟨(some 46), .iaddr 1 none (.t 44) (.t 45), none, false, []⟩,
                ⟨(some 47), .load 1 false (.t 46), none, false, []⟩,
                ⟨(some 48), .mov (.t 7), none, false, []⟩,
                ⟨(some 49), .bin .none .add (.t 48) (.c (.int .i64 1)), none, false, []⟩,
                ⟨(some 50), .iaddr 1 none (.t 47) (.t 49), none, false, []⟩,
                ⟨(some 51), .load 1 false (.t 50), none, false, []⟩,
                ⟨(some 52), .min [(.t 43), (.t 51)], none, false, []⟩,
                ⟨(some 53), .bin .none .add (.c (.int .i64 1)) (.t 52), none, false, []⟩,
                ⟨(some 54), .iaddr 1 none (.t 34) (.t 35), none, false, []⟩,
                ⟨none, .store 1 (.t 54) (.t 53), none, false, []⟩] (some (0, 0, [0, 1, 2, 3, 4, 5, 6, 7, 8, 9, 10, 11, 12, 13, 14, 15, 16, 17, 18, 19, 20, 21, 22, 23, 24])) [0, 1, 5, 6, 7])))))))))
      (.ops [⟨(some 29), .mov (.t 7), none, false, []⟩,
        ⟨(some 30), .bin .none .sub (.t 29) (.c (.int .i64 1)), none, false, []⟩,
        ⟨(some 7), .mov (.t 30), none, false, []⟩] none [0, 1, 5, 6, 7]))))))))
    (.ops [⟨(some 16), .mov (.t 6), none, false, []⟩,
      ⟨(some 17), .bin .none .sub (.t 16) (.c (.int .i64 1)), none, false, []⟩,
      ⟨(some 6), .mov (.t 17), none, false, []⟩] none [0, 1, 5, 6]))))))
  (.seq (.ops [⟨(some 110), .mov (.t 5), none, false, []⟩,
    ⟨(some 4), .mov (.t 110), none, false, []⟩] none [4])
  .ret))))
def diff_costs_r : List RRes := [.tmp 4]
def diff_costs_hi : Hi := ⟨[(11, (.sl (.int .i64))), (23, (.int .i64))], [(0, "a"), (1, "b"), (2, "a"), (3, "b"), (5, "out"), (6, "i"), (7, "k")]⟩
def diff_costs_an : An := (.seq .d (.seq .d (.seq (.seq .d (.loop [5] [] [] (.seq .d (.seq (.seq .d (.seq .d (.loop [5] [] [] .d))) .d)))) .d)))
def diff_costs_fi : Fi := ⟨111, diff_costs_c, diff_costs_r, diff_costs_an, diff_costs_hi, none⟩
theorem diff_costs_ok : FiOk Try.prog f_diff_costs diff_costs_fi :=
  ⟨fun _ => by kernel_rfl, fun _ h hlen => fun_sound (by kernel_rfl) (fn := Try.f26) (draw_sound _ _) Try.func26 rfl (by kernel_rfl : comp Try.prog 111 _ diff_costs_c = some diff_costs_c) (by kernel_rfl : cRes Try.prog Try.f26.results.toList = some diff_costs_r) hlen h, fun _ h => nomatch h⟩

/-- fustian/diff.add: slots [0 l, 1 kind, 2 l, 3 kind, 5 n] -/
def diff_add_c : SCode :=
  (.seq (.ops [⟨(some 4), .mov (.c .nils), none, false, []⟩] none [0, 1])
  (.seq (.seq (.ops [⟨(some 6), .mov (.t 0), none, false, []⟩,
    ⟨(some 7), .len false (.t 6), none, false, []⟩,
    ⟨(some 5), .mov (.t 7), none, false, []⟩] none [0, 1, 5])
  (.seq (.ops [⟨(some 8), .mov (.t 5), none, false, []⟩,
    ⟨(some 9), .bin .none .gtr (.t 8) (.c (.int .i64 0)), none, false, []⟩,
    ⟨(some 10), .mov (.t 9), none, true, []⟩,
    ⟨(some 11), .mov (.t 0), (some (10, true)), false, []⟩,
    ⟨(some 12), .mov (.t 5), (some (10, true)), false, []⟩,
    ⟨(some 13), .bin .none .sub (.t 12) (.c (.int .i64 1)), (some (10, true)), false, []⟩,
    ⟨(some 14), .iaddr 2 none (.t 11) (.t 13), (some (10, true)), false, []⟩,
    ⟨(some 15), .faddr 0 (.t 14), (some (10, true)), false, []⟩,
    ⟨(some 16), .load 1 false (.t 15), (some (10, true)), false, []⟩,
    ⟨(some 17), .mov (.t 1), (some (10, true)), false, []⟩,
    ⟨(some 18), .bin .none .eql (.t 16) (.t 17), (some (10, true)), false, []⟩,
    ⟨(some 19), .pick (.t 10) (.t 18) (.c (.bool false)), none, false, []⟩] none [0, 1, 5, 19])
  (.cond (.t 19)
    (.seq (.ops [⟨(some 20), .mov (.t 0), none, false, []⟩,
      ⟨(some 21), .mov (.t 5), none, false, []⟩,
      ⟨(some 22), .bin .none .sub (.t 21) (.c (.int .i64 1)), none, false, []⟩,
      ⟨(some 23), .iaddr 2 none (.t 20) (.t 22), none, false, []⟩,
      ⟨(some 24), .faddr 1 (.t 23), none, false, []⟩,
      ⟨(some 25), .load 1 false (.t 24), none, false, []⟩,
      ⟨(some 26), .bin .none .add (.t 25) (.c (.int .i64 1)), none, false, []⟩,
      ⟨(some 27), .iaddr 2 none (.t 20) (.t 22), none, false, []⟩,
      ⟨(some 28), .faddr 1 (.t 27), none, false, []⟩,
      ⟨none, .store 1 (.t 28) (.t 26), none, false, []⟩] none [0])
    (.seq (.ops [⟨(some 29), .mov (.t 0), none, false, []⟩,
      ⟨(some 4), .mov (.t 29), none, false, []⟩] none [4])
    .ret))
    .skip)))
  (.seq (.ops [⟨(some 30), .mov (.t 0), none, false, []⟩,
    ⟨(some 31), .mov (.t 1), none, false, []⟩,
    ⟨(some 32), .build [(.int .i64 0), (.int .i64 0)] [(0, 1, (.t 31)), (1, 1, (.c (.int .i64 1)))], none, false, []⟩,
    ⟨(some 33), .bslice true 1 2 [(.int .i64 0), (.int .i64 0)] [(0, 2, (.t 32))], none, false, []⟩,
    ⟨(some 34), .append 2 16 (.t 30) (.t 33), none, false, []⟩,
    ⟨(some 4), .mov (.t 34), none, false, []⟩] none [4])
  .ret)))
def diff_add_r : List RRes := [.tmp 4]
def diff_add_hi : Hi := ⟨[(33, (.st (.cons (.int .i64) (.cons (.int .i64) .nil)))), (34, (.st (.cons (.int .i64) (.cons (.int .i64) .nil))))], [(0, "l"), (1, "kind"), (2, "l"), (3, "kind"), (5, "n")]⟩
def diff_add_an : An := .d
def diff_add_fi : Fi := ⟨35, diff_add_c, diff_add_r, diff_add_an, diff_add_hi, none⟩
theorem diff_add_ok : FiOk Try.prog f_diff_add diff_add_fi :=
  ⟨fun _ => by kernel_rfl, fun _ h hlen => fun_sound (by kernel_rfl) (fn := Try.f35) (draw_sound _ _) Try.func35 rfl (by kernel_rfl : comp Try.prog 35 _ diff_add_c = some diff_add_c) (by kernel_rfl : cRes Try.prog Try.f35.results.toList = some diff_add_r) hlen h, fun _ h => nomatch h⟩

end Go.Proofs.Ytdbgppfoenoijaa
