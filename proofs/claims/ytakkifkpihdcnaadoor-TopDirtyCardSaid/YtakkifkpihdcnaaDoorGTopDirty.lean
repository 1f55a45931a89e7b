/- The functions' simplified code, printed by a program of the claim's author; each is checked against the program's own code. Conditions: none. -/
import Derived.Test.YtakkifkpihdcnaaDoorProg
import Derived.Test.YtakkifkpihdcnaaDoorVyM
import Derived.Test.YtakkifkpihdcnaaDoorVx4
set_option linter.unusedVariables false
set_option maxRecDepth 100000
namespace Go.Proofs.YtakkifkpihdcnaaDoor
open Go.Vc
abbrev f_gosem_cut_init : Nat := 2
abbrev f_law_PolyLineses : Nat := 3
abbrev f_top_TopDirty : Nat := 4
abbrev f_poly_Lines : Nat := 5
abbrev f_ref_PolyLines : Nat := 6
abbrev f_law_sameInts : Nat := 7
abbrev f_keep_TextOf : Nat := 8
abbrev f_keep_EditOf : Nat := 9
abbrev f_edit_Apply : Nat := 10
abbrev f_spans_Shift : Nat := 11
abbrev f_spans_Widen : Nat := 12
abbrev f_top_sameInts : Nat := 13
abbrev f_strings_SplitSeq : Nat := 14
abbrev f_poly_Of : Nat := 15
abbrev f_ref_cutLines : Nat := 16
abbrev f_ref_PolyOf : Nat := 17
abbrev f_keep_Picked : Nat := 18
abbrev f_edit_run : Nat := 19
abbrev f_spans_May : Nat := 20
abbrev f_edit_Check : Nat := 21
abbrev f_spans_full : Nat := 22
abbrev f_spans_Shifted : Nat := 23
abbrev f_spans_Widened : Nat := 24
abbrev f_strings_splitSeq : Nat := 25
abbrev f_edit_Undo : Nat := 26
abbrev f_edit_Made : Nat := 27
abbrev f_spans_Without : Nat := 28
abbrev f_spans_With : Nat := 29
abbrev f_spans_Joined : Nat := 30
abbrev f_strings_LastIndexByte : Nat := 31
abbrev f_strings_IndexByte : Nat := 32
abbrev f_strings_splitSeq_1 : Nat := 33
abbrev f_unicode_utf8_DecodeRuneInString : Nat := 34
abbrev f_strings_Index : Nat := 35
abbrev f_slices_Clone___api_Span_api_Span_ : Nat := 36
abbrev f_slices_DeleteFunc___api_Span_api_Span_ : Nat := 37
abbrev f_spans_Without_1 : Nat := 38
abbrev f_slices_BinarySearchFunc___api_Span_api_Span_int_ : Nat := 39
abbrev f_spans_With_1 : Nat := 40
abbrev f_slices_Insert___api_Span_api_Span_ : Nat := 41
abbrev f_internal_bytealg_LastIndexByteString : Nat := 42
abbrev f_internal_stringslite_IndexByte : Nat := 43
abbrev f_unicode_utf8_decodeRuneInStringSlow : Nat := 44
abbrev f_internal_stringslite_Index : Nat := 45
abbrev f_slices_IndexFunc___api_Span_api_Span_ : Nat := 46
abbrev f_slices_rotateRight_api_Span_ : Nat := 48
abbrev f_internal_bytealg_Cutover : Nat := 51
abbrev f_internal_bytealg_IndexRabinKarp_string_ : Nat := 52
abbrev f_slices_rotateLeft_api_Span_ : Nat := 53
abbrev f_internal_bytealg_hashStr_string_ : Nat := 54
abbrev f_slices_Reverse___api_Span_api_Span_ : Nat := 55
abbrev f_gosem_cut_vars : Nat := 76

/-- fustian/fustiankeep.Picked: slots [0 a, 1 n, 2 a, 3 n] -/
def keep_Picked_c : SCode :=
  (.seq (.ops [⟨(some 4), .mov (.c (.int .i64 0)), none, false, []⟩] none [0, 1])
  (.seq (.ops [⟨(some 5), .mov (.t 0), none, false, []⟩,
    ⟨(some 6), .mov (.t 1), none, false, []⟩,
    ⟨(some 7), .bin .none .rem (.t 5) (.t 6), none, false, []⟩,
    ⟨(some 0), .mov (.t 7), none, false, []⟩] none [0, 1])
  (.seq (.seq (.ops [⟨(some 8), .mov (.t 0), none, false, []⟩,
    ⟨(some 9), .bin .none .lss (.t 8) (.c (.int .i64 0)), none, false, []⟩] none [0, 1, 9])
  (.cond (.t 9)
    (.seq (.ops [⟨(some 10), .mov (.t 0), none, false, []⟩,
      ⟨(some 11), .mov (.t 1), none, false, []⟩,
      ⟨(some 12), .bin .none .add (.t 10) (.t 11), none, false, []⟩,
      ⟨(some 4), .mov (.t 12), none, false, []⟩] none [4])
    .ret)
    .skip))
  (.seq (.ops [⟨(some 13), .mov (.t 0), none, false, []⟩,
    ⟨(some 4), .mov (.t 13), none, false, []⟩] none [4])
  .ret))))
def keep_Picked_r : List RRes := [.tmp 4]
def keep_Picked_hi : Hi := ⟨[], [(0, "a"), (1, "n"), (2, "a"), (3, "n")]⟩
def keep_Picked_an : An := .d
def keep_Picked_fi : Fi := ⟨14, keep_Picked_c, keep_Picked_r, keep_Picked_an, keep_Picked_hi, none⟩
theorem keep_Picked_ok : FiOk Tryd.prog f_keep_Picked keep_Picked_fi :=
  ⟨fun _ => by kernel_rfl, fun _ h hlen => fun_sound (by kernel_rfl) (fn := Tryd.f18) (draw_sound _ _) Tryd.func18 rfl (by kernel_rfl : comp Tryd.prog 14 _ keep_Picked_c = some keep_Picked_c) (by kernel_rfl : cRes Tryd.prog Tryd.f18.results.toList = some keep_Picked_r) hlen h, fun _ h => nomatch h⟩

/-- fustian/fustiankeep.TextOf: slots [0 l, 1 n, 2 l, 3 n, 5 out, 6 i] -/
def keep_TextOf_c : SCode :=
  (.seq (.ops [⟨(some 4), .mov (.c (.str [])), none, false, []⟩] none [0, 1])
  (.seq (.ops [⟨(some 5), .mov (.c (.str [])), none, false, []⟩] none [0, 1, 5])
  (.seq (.seq (.ops [⟨(some 6), .mov (.c (.int .i64 0)), none, false, []⟩] none [0, 1, 5, 6])
  (.block 0 (.loop [0, 1] [5, 6] 0
    (.seq (.seq (.ops [⟨(some 7), .mov (.t 6), none, false, []⟩,
      ⟨(some 8), .mov (.t 0), none, false, []⟩,
      ⟨(some 9), .len false (.t 8), none, false, []⟩,
      ⟨(some 10), .bin .none .lss (.t 7) (.t 9), none, false, []⟩,
      ⟨(some 11), .mov (.t 10), none, true, []⟩,
      ⟨(some 12), .mov (.t 6), (some (11, true)), false, []⟩,
      ⟨(some 13), .mov (.t 1), (some (11, true)), false, []⟩,
      ⟨(some 14), .bin .none .lss (.t 12) (.t 13), (some (11, true)), false, []⟩,
      ⟨(some 15), .pick (.t 11) (.t 14) (.c (.bool false)), none, false, []⟩] none [0, 1, 5, 6, 15])
    (.cond (.t 15)
      .skip
      (.exit 0)))
    (.seq (.block 1 (.ops [⟨(some 18), .mov (.t 5), none, false, []⟩,
      ⟨(some 19), .mov (.t 0), none, false, []⟩,
      ⟨(some 20), .mov (.t 6), none, false, []⟩,
      ⟨(some 21), .iaddr 1 none (.t 19) (.t 20), none, false, []⟩,
      ⟨(some 22), .load 1 false (.t 21), none, false, []⟩,
      ⟨(some 23), .call f_keep_Picked [(.t 22), (.c (.int .i64 12))], none, false, []⟩,
      ⟨(some 24), .slice 0 (.c (.str [97, 98, 32, 10, 97, 98, 99, 100, 32, 98, 10, 97])) (some (.t 23)) none, none, false, []⟩,
      ⟨(some 25), .slice 0 (.t 24) none (some (.c (.int .i64 1))), none, false, []⟩,
      ⟨(some 26), .bin .none .add (.t 18) (.t 25), none, false, []⟩,
      ⟨(some 5), .mov (.t 26), none, false, []⟩] none [0, 1, 5, 6]))
    (.ops [⟨(some 16), .mov (.t 6), none, false, []⟩,
      ⟨(some 17), .bin .none .add (.t 16) (.c (.int .i64 1)), none, false, []⟩,
      ⟨(some 6), .mov (.t 17), none, false, []⟩] none [0, 1, 5, 6]))))))
  (.seq (.ops [⟨(some 27), .mov (.t 5), none, false, []⟩,
    ⟨(some 4), .mov (.t 27), none, false, []⟩] none [4])
  .ret))))
def keep_TextOf_r : List RRes := [.tmp 4]
def keep_TextOf_hi : Hi := ⟨[], [(0, "l"), (1, "n"), (2, "l"), (3, "n"), (5, "out"), (6, "i")]⟩
def keep_TextOf_an : An := (.seq .d (.seq .d (.seq (.seq .d (.loop [] [] [] .d)) .d)))
def keep_TextOf_fi : Fi := ⟨28, keep_TextOf_c, keep_TextOf_r, keep_TextOf_an, keep_TextOf_hi, none⟩
theorem keep_TextOf_ok : FiOk Tryd.prog f_keep_TextOf keep_TextOf_fi :=
  ⟨fun _ => by kernel_rfl, fun _ h hlen => fun_sound (by kernel_rfl) (fn := Tryd.f8) (draw_sound _ _) Tryd.func8 rfl (by kernel_rfl : comp Tryd.prog 28 _ keep_TextOf_c = some keep_TextOf_c) (by kernel_rfl : cRes Tryd.prog Tryd.f8.results.toList = some keep_TextOf_r) hlen h, fun _ h => nomatch h⟩

/-- fustian/fustiankeep.EditOf: slots [0 c, 1 size, 2 c, 3 size, 5 at] -/
def keep_EditOf_c : SCode :=
  (.seq (.ops [⟨(some 2), .box 0 (.t 0), none, false, []⟩,
    ⟨(some 4), .alloc 0 [(.int .i64 0), (.int .i64 0), (.str [])], none, false, []⟩] none [1, 2, 4])
  (.seq (.ops [⟨(some 6), .faddr 0 (.t 2), none, false, []⟩,
    ⟨(some 7), .load 1 false (.t 6), none, false, []⟩,
    ⟨(some 8), .mov (.t 1), none, false, []⟩,
    ⟨(some 9), .bin .none .add (.t 8) (.c (.int .i64 1)), none, false, []⟩,
    ⟨(some 10), .call f_keep_Picked [(.t 7), (.t 9)], none, false, []⟩,
    ⟨(some 5), .mov (.t 10), none, false, []⟩] none [1, 2, 4, 5])
  (.seq (.ops [⟨(some 11), .mov (.t 5), none, false, []⟩,
    ⟨(some 12), .faddr 1 (.t 2), none, false, []⟩,
    ⟨(some 13), .load 1 false (.t 12), none, false, []⟩,
    ⟨(some 14), .mov (.t 1), none, false, []⟩,
    ⟨(some 15), .mov (.t 5), none, false, []⟩,
    ⟨(some 16), .bin .none .sub (.t 14) (.t 15), none, false, []⟩,
    ⟨(some 17), .min [(.t 16), (.c (.int .i64 12))], none, false, []⟩,
    ⟨(some 18), .bin .none .add (.t 17) (.c (.int .i64 1)), none, false, []⟩,
    ⟨(some 20), .faddr 2 (.t 2), none, false, []⟩,
    ⟨(some 21), .load 1 false (.t 20), none, false, []⟩,
    ⟨(some 19), .call f_keep_Picked [(.t 13), (.t 18)], none, false, []⟩,
    ⟨(some 22), .call f_keep_TextOf [(.t 21), (.c (.int .i64 8))], none, false, []⟩,
    ⟨(some 23), .build [(.int .i64 0), (.int .i64 0), (.str [])] [(0, 1, (.t 11)), (1, 1, (.t 19)), (2, 1, (.t 22))], none, false, []⟩,
    ⟨none, .store 3 (.t 4) (.t 23), none, false, []⟩] (some (11, 0, [0, 1, 2, 3, 4, 5, 6, 7, 9, 10, 8, 11, 12, 13])) [4])
  .ret)))
def keep_EditOf_r : List RRes := [.cell 4 3 true]
def keep_EditOf_hi : Hi := ⟨[(2, (.st (.cons (.int .i64) (.cons (.int .i64) (.cons (.sl (.int .i64)) .nil))))), (4, (.st (.cons (.int .i64) (.cons (.int .i64) (.cons .str .nil)))))], [(0, "c"), (1, "size"), (2, "c"), (3, "size"), (5, "at")]⟩
def keep_EditOf_an : An := .d
def keep_EditOf_fi : Fi := ⟨24, keep_EditOf_c, keep_EditOf_r, keep_EditOf_an, keep_EditOf_hi, none⟩
theorem keep_EditOf_ok : FiOk Tryd.prog f_keep_EditOf keep_EditOf_fi :=
  ⟨fun _ => by kernel_rfl, fun _ h hlen => fun_sound (by kernel_rfl) (fn := Tryd.f9) (draw_sound _ _) Tryd.func9 rfl (by kernel_rfl : comp Tryd.prog 24 _ keep_EditOf_c = some keep_EditOf_c) (by kernel_rfl : cRes Tryd.prog Tryd.f9.results.toList = some keep_EditOf_r) hlen h, fun _ h => nomatch h⟩

/-- fustian/edit.Check: slots [0 size, 1 e, 2 size, 3 e] -/
def edit_Check_c : SCode :=
  (.seq (.ops [⟨(some 3), .box 0 (.t 1), none, false, []⟩,
    ⟨(some 4), .mov (.c (.int .i64 0)), none, false, []⟩] none [0, 3])
  (.seq (.block 0 (.seq (.ops [⟨(some 6), .mov (.t 0), none, false, []⟩,
    ⟨(some 7), .bin .none .lss (.t 6) (.c (.int .i64 0)), none, false, []⟩,
    ⟨(some 8), .mov (.t 7), none, true, []⟩,
    ⟨(some 9), .mov (.t 0), (some (8, false)), false, []⟩,
    ⟨(some 10), .bin .none .gtr (.t 9) (.c (.int .i64 600)), (some (8, false)), false, []⟩,
    ⟨(some 11), .pick (.t 8) (.c (.bool true)) (.t 10), none, false, []⟩,
    ⟨(some 12), .mov (.t 11), none, true, []⟩,
    ⟨(some 13), .faddr 0 (.t 3), (some (12, false)), false, []⟩,
    ⟨(some 14), .load 1 false (.t 13), (some (12, false)), false, []⟩,
    ⟨(some 15), .bin .none .lss (.t 14) (.c (.int .i64 0)), (some (12, false)), false, []⟩,
    ⟨(some 16), .pick (.t 12) (.c (.bool true)) (.t 15), none, false, []⟩,
    ⟨(some 17), .mov (.t 16), none, true, []⟩,
    ⟨(some 18), .faddr 0 (.t 3), (some (17, false)), false, []⟩,
    ⟨(some 19), .load 1 false (.t 18), (some (17, false)), false, []⟩,
    ⟨(some 20), .mov (.t 0), (some (17, false)), false, []⟩,
    ⟨(some 21), .bin .none .gtr (.t 19) (.t 20), (some (17, false)), false, []⟩,
    ⟨(some 22), .pick (.t 17) (.c (.bool true)) (.t 21), none, false, []⟩,
    ⟨(some 23), .mov (.t 22), none, true, []⟩,
    ⟨(some 24), .faddr 1 (.t 3), (some (23, false)), false, []⟩,
    ⟨(some 25), .load 1 false (.t 24), (some (23, false)), false, []⟩,
    ⟨(some 26), .bin .none .lss (.t 25) (.c (.int .i64 0)), (some (23, false)), false, []⟩,
    ⟨(some 27), .pick (.t 23) (.c (.bool true)) (.t 26), none, false, []⟩,
    ⟨(some 28), .mov (.t 27), none, true, []⟩,
    ⟨(some 29), .faddr 1 (.t 3), (some (28, false)), false, []⟩,
    ⟨(some 30), .load 1 false (.t 29), (some (28, false)), false, []⟩,
    ⟨(some 31), .mov (.t 0), (some (28, false)), false, []⟩,
    ⟨(some 32), .faddr 0 (.t 3), (some (28, false)), false, []⟩,
    ⟨(some 33), .load 1 false (.t 32), (some (28, false)), false, []⟩,
    ⟨(some 34), .bin .none .sub (.t 31) (.t 33), (some (28, false)), false, []⟩,
    ⟨(some 35), .bin .none .gtr (.t 30) (.t 34), (some (28, false)), false, []⟩,
    ⟨(some 36), .pick (.t 28) (.c (.bool true)) (.t 35), none, false, []⟩,
    ⟨(some 5), .mov (.t 36), none, false, []⟩] none [0, 3, 5])
  (.cond (.t 5)
    (.seq (.ops [⟨(some 4), .mov (.c (.int .i64 2)), none, false, []⟩] none [4])
    .ret)
    (.seq (.ops [⟨(some 38), .mov (.t 0), none, false, []⟩,
      ⟨(some 39), .faddr 1 (.t 3), none, false, []⟩,
      ⟨(some 40), .load 1 false (.t 39), none, false, []⟩,
      ⟨(some 41), .bin .none .sub (.t 38) (.t 40), none, false, []⟩,
      ⟨(some 42), .faddr 2 (.t 3), none, false, []⟩,
      ⟨(some 43), .load 1 false (.t 42), none, false, []⟩,
      ⟨(some 44), .len true (.t 43), none, false, []⟩,
      ⟨(some 45), .bin .none .add (.t 41) (.t 44), none, false, []⟩,
      ⟨(some 46), .bin .none .gtr (.t 45) (.c (.int .i64 600)), none, false, []⟩,
      ⟨(some 37), .mov (.t 46), none, false, []⟩] none [37])
    (.cond (.t 37)
      (.seq (.ops [⟨(some 4), .mov (.c (.int .i64 1)), none, false, []⟩] none [4])
      .ret)
      .skip)))))
  (.seq (.ops [⟨(some 4), .mov (.c (.int .i64 0)), none, false, []⟩] none [4])
  .ret)))
def edit_Check_r : List RRes := [.tmp 4]
def edit_Check_hi : Hi := ⟨[(3, (.st (.cons (.int .i64) (.cons (.int .i64) (.cons .str .nil)))))], [(0, "size"), (1, "e"), (2, "size"), (3, "e")]⟩
def edit_Check_an : An := .d
def edit_Check_fi : Fi := ⟨47, edit_Check_c, edit_Check_r, edit_Check_an, edit_Check_hi, none⟩
theorem edit_Check_ok : FiOk Tryd.prog f_edit_Check edit_Check_fi :=
  ⟨fun _ => by kernel_rfl, fun _ h hlen => fun_sound (by kernel_rfl) (fn := Tryd.f21) (draw_sound _ _) Tryd.func21 rfl (by kernel_rfl : comp Tryd.prog 47 _ edit_Check_c = some edit_Check_c) (by kernel_rfl : cRes Tryd.prog Tryd.f21.results.toList = some edit_Check_r) hlen h, fun _ h => nomatch h⟩

/-- fustian/edit.Made: slots [0 text, 1 e, 2 text, 3 e] -/
def edit_Made_c : SCode :=
  (.seq (.ops [⟨(some 3), .box 0 (.t 1), none, false, []⟩,
    ⟨(some 4), .mov (.c (.str [])), none, false, []⟩] none [0, 3])
  (.seq (.ops [⟨(some 5), .mov (.t 0), none, false, []⟩,
    ⟨(some 6), .faddr 0 (.t 3), none, false, []⟩,
    ⟨(some 7), .load 1 false (.t 6), none, false, []⟩,
    ⟨(some 8), .slice 0 (.t 5) none (some (.t 7)), none, false, []⟩,
    ⟨(some 9), .faddr 2 (.t 3), none, false, []⟩,
    ⟨(some 10), .load 1 false (.t 9), none, false, []⟩,
    ⟨(some 11), .bin .none .add (.t 8) (.t 10), none, false, []⟩,
    ⟨(some 12), .mov (.t 0), none, false, []⟩,
    ⟨(some 13), .faddr 0 (.t 3), none, false, []⟩,
    ⟨(some 14), .load 1 false (.t 13), none, false, []⟩,
    ⟨(some 15), .faddr 1 (.t 3), none, false, []⟩,
    ⟨(some 16), .load 1 false (.t 15), none, false, []⟩,
    ⟨(some 17), .bin .none .add (.t 14) (.t 16), none, false, []⟩,
    ⟨(some 18), .slice 0 (.t 12) (some (.t 17)) none, none, false, []⟩,
    ⟨(some 19), .bin .none .add (.t 11) (.t 18), none, false, []⟩,
    ⟨(some 4), .mov (.t 19), none, false, []⟩] (some (0, 0, [0, 1, 2, 3, 4, 5, 6, 7, 8, 9, 10, 11, 12, 13, 14, 15])) [4])
  .ret))
def edit_Made_r : List RRes := [.tmp 4]
def edit_Made_hi : Hi := ⟨[(3, (.st (.cons (.int .i64) (.cons (.int .i64) (.cons .str .nil)))))], [(0, "text"), (1, "e"), (2, "text"), (3, "e")]⟩
def edit_Made_an : An := .d
def edit_Made_fi : Fi := ⟨20, edit_Made_c, edit_Made_r, edit_Made_an, edit_Made_hi, none⟩
theorem edit_Made_ok : FiOk Tryd.prog f_edit_Made edit_Made_fi :=
  ⟨fun _ => by kernel_rfl, fun _ h hlen => fun_sound (by kernel_rfl) (fn := Tryd.f27) (draw_sound _ _) Tryd.func27 rfl (by kernel_rfl : comp Tryd.prog 20 _ edit_Made_c = some edit_Made_c) (by kernel_rfl : cRes Tryd.prog Tryd.f27.results.toList = some edit_Made_r) hlen h, fun _ h => nomatch h⟩

/-- fustian/edit.Undo: slots [0 text, 1 e, 2 text, 3 e] -/
def edit_Undo_c : SCode :=
  (.seq (.ops [⟨(some 3), .box 0 (.t 1), none, false, []⟩,
    ⟨(some 4), .alloc 0 [(.int .i64 0), (.int .i64 0), (.str [])], none, false, []⟩] none [0, 3, 4])
  (.seq (.ops [⟨(some 5), .faddr 0 (.t 3), none, false, []⟩,
    ⟨(some 6), .load 1 false (.t 5), none, false, []⟩,
    ⟨(some 7), .faddr 2 (.t 3), none, false, []⟩,
    ⟨(some 8), .load 1 false (.t 7), none, false, []⟩,
    ⟨(some 9), .len true (.t 8), none, false, []⟩,
    ⟨(some 10), .mov (.t 0), none, false, []⟩,
    ⟨(some 11), .faddr 0 (.t 3), none, false, []⟩,
    ⟨(some 12), .load 1 false (.t 11), none, false, []⟩,
    ⟨(some 13), .faddr 0 (.t 3), none, false, []⟩,
    ⟨(some 14), .load 1 false (.t 13), none, false, []⟩,
    ⟨(some 15), .faddr 1 (.t 3), none, false, []⟩,
    ⟨(some 16), .load 1 false (.t 15), none, false, []⟩,
    ⟨(some 17), .bin .none .add (.t 14) (.t 16), none, false, []⟩,
    ⟨(some 18), .slice 0 (.t 10) (some (.t 12)) (some (.t 17)), none, false, []⟩,
    ⟨(some 19), .build [(.int .i64 0), (.int .i64 0), (.str [])] [(0, 1, (.t 6)), (1, 1, (.t 9)), (2, 1, (.t 18))], none, false, []⟩,
    ⟨none, .store 3 (.t 4) (.t 19), none, false, []⟩] (some (0, 0, [0, 1, 2, 3, 4, 5, 6, 7, 8, 9, 10, 11, 12, 13, 14, 15])) [4])
  .ret))
def edit_Undo_r : List RRes := [.cell 4 3 true]
def edit_Undo_hi : Hi := ⟨[(3, (.st (.cons (.int .i64) (.cons (.int .i64) (.cons .str .nil))))), (4, (.st (.cons (.int .i64) (.cons (.int .i64) (.cons .str .nil)))))], [(0, "text"), (1, "e"), (2, "text"), (3, "e")]⟩
def edit_Undo_an : An := .d
def edit_Undo_fi : Fi := ⟨20, edit_Undo_c, edit_Undo_r, edit_Undo_an, edit_Undo_hi, none⟩
theorem edit_Undo_ok : FiOk Tryd.prog f_edit_Undo edit_Undo_fi :=
  ⟨fun _ => by kernel_rfl, fun _ h hlen => fun_sound (by kernel_rfl) (fn := Tryd.f26) (draw_sound _ _) Tryd.func26 rfl (by kernel_rfl : comp Tryd.prog 20 _ edit_Undo_c = some edit_Undo_c) (by kernel_rfl : cRes Tryd.prog Tryd.f26.results.toList = some edit_Undo_r) hlen h, fun _ h => nomatch h⟩

/-- fustian/edit.run: slots [0 text, 1 l, 2 text, 3 l, 7 back, 8 _, 9 x, 10 e] -/
def edit_run_c : SCode :=
  (.seq (.ops [⟨(some 4), .mov (.c (.str [])), none, false, []⟩,
    ⟨(some 5), .mov (.c .nils), none, false, []⟩,
    ⟨(some 6), .mov (.c (.int .i64 0)), none, false, []⟩] none [0, 1])
  (.seq (.seq (.ops [⟨(some 11), .mov (.t 1), none, false, []⟩,
    ⟨(some 12), .len false (.t 11), none, false, []⟩,
    ⟨(some 13), .bin .none .gtr (.t 12) (.c (.int .i64 60)), none, false, []⟩,
    ⟨(some 14), .mov (.t 13), none, true, []⟩,
    ⟨(some 15), .mov (.t 0), (some (14, false)), false, []⟩,
    ⟨(some 16), .len true (.t 15), (some (14, false)), false, []⟩,
    ⟨(some 17), .bin .none .gtr (.t 16) (.c (.int .i64 600)), (some (14, false)), false, []⟩,
    ⟨(some 18), .pick (.t 14) (.c (.bool true)) (.t 17), none, false, []⟩] none [0, 1, 18])
  (.cond (.t 18)
    (.seq (.ops [⟨(some 4), .mov (.c (.str [])), none, false, []⟩,
      ⟨(some 5), .mov (.c .nils), none, false, []⟩,
      ⟨(some 6), .mov (.c (.int .i64 1)), none, false, []⟩] none [4, 5, 6])
    .ret)
    .skip))
  (.seq (.ops [⟨(some 7), .newnil 3, none, false, []⟩] none [0, 1, 7])
  (.seq (.seq (.ops [⟨(some 19), .mov (.t 1), none, false, []⟩,
    ⟨(some 20), .len false (.t 19), none, false, []⟩,
    ⟨(some 21), .mov (.c (.int .i64 0)), none, false, []⟩] none [0, 7, 19, 20, 21])
  (.block 0 (.loop [19, 20] [0, 7, 21] 1
    (.seq (.ops [⟨(some 22), .bin .none .lss (.t 21) (.t 20), none, false, []⟩] none [0, 7, 19, 20, 21, 22])
    (.seq (.cond (.t 22)
      .skip
      (.exit 0))
    (.seq (.block 1 (.seq (.ops [⟨(some 23), .iaddr 3 none (.t 19) (.t 21), none, false, []⟩,
      ⟨(some 24), .load 3 true (.t 23), none, false, []⟩,
      ⟨(some 9), .alloc 0 [(.int .i64 0), (.int .i64 0), (.str [])], none, false, []⟩,
      ⟨none, .store 3 (.t 9) (.t 24), none, false, []⟩] none [0, 7, 9, 19, 20, 21])
    (.seq (.seq (.ops [⟨(some 25), .mov (.t 0), none, false, []⟩,
      ⟨(some 26), .len true (.t 25), none, false, []⟩,
      ⟨(some 27), .load 3 true (.t 9), none, false, []⟩,
      ⟨(some 28), .call f_edit_Check [(.t 26), (.t 27)], none, false, []⟩,
      ⟨(some 10), .mov (.t 28), none, false, []⟩] none [0, 7, 9, 10, 19, 20, 21])
    (.seq (.ops [⟨(some 29), .mov (.t 10), none, false, []⟩,
      ⟨(some 30), .bin .none .neq (.t 29) (.c (.int .i64 0)), none, false, []⟩] none [0, 7, 9, 10, 19, 20, 21, 30])
    (.cond (.t 30)
      (.seq (.ops [⟨(some 31), .mov (.t 10), none, false, []⟩,
        ⟨(some 4), .mov (.c (.str [])), none, false, []⟩,
        ⟨(some 5), .mov (.c .nils), none, false, []⟩,
        ⟨(some 6), .mov (.t 31), none, false, []⟩] none [4, 5, 6])
      .ret)
      .skip)))
    (.seq (.ops [⟨(some 32), .mov (.t 7), none, false, []⟩,
      ⟨(some 33), .mov (.t 0), none, false, []⟩,
      ⟨(some 34), .load 3 true (.t 9), none, false, []⟩,
      ⟨(some 35), .call f_edit_Undo [(.t 33), (.t 34)], none, false, []⟩,
      ⟨(some 36), .bslice true 1 3 [(.int .i64 0), (.int .i64 0), (.str [])] [(0, 3, (.t 35))], none, false, []⟩,
      ⟨(some 37), .append 3 32 (.t 32) (.t 36), none, false, []⟩,
      ⟨(some 7), .mov (.t 37), none, false, []⟩] none [0, 7, 9, 19, 20, 21])
    (.ops [⟨(some 38), .mov (.t 0), none, false, []⟩,
      ⟨(some 39), .load 3 true (.t 9), none, false, []⟩,
      ⟨(some 40), .call f_edit_Made [(.t 38), (.t 39)], none, false, []⟩,
      ⟨(some 0), .mov (.t 40), none, false, []⟩] none [0, 7, 19, 20, 21])))))
    (.ops [⟨(some 41), .bin .none .add (.t 21) (.c (.int .i64 1)), none, false, []⟩,
      ⟨(some 21), .mov (.t 41), none, false, []⟩] none [0, 7, 19, 20, 21])))))))
  (.seq (.ops [⟨(some 42), .mov (.t 0), none, false, []⟩,
    ⟨(some 43), .mov (.t 7), none, false, []⟩,
    ⟨(some 4), .mov (.t 42), none, false, []⟩,
    ⟨(some 5), .mov (.t 43), none, false, []⟩,
    ⟨(some 6), .mov (.c (.int .i64 0)), none, false, []⟩] none [4, 5, 6])
  .ret)))))
def edit_run_r : List RRes := [.tmp 4, .tmp 5, .tmp 6]
def edit_run_hi : Hi := ⟨[(7, (.st (.cons (.int .i64) (.cons (.int .i64) (.cons .str .nil))))), (36, (.st (.cons (.int .i64) (.cons (.int .i64) (.cons .str .nil))))), (37, (.st (.cons (.int .i64) (.cons (.int .i64) (.cons .str .nil))))), (9, (.st (.cons (.int .i64) (.cons (.int .i64) (.cons .str .nil)))))], [(0, "text"), (1, "l"), (2, "text"), (3, "l"), (7, "back"), (9, "x"), (10, "e")]⟩
def edit_run_an : An := (.seq .d (.seq .d (.seq .d (.seq (.seq .d (.loop [7] [] [] .d)) .d))))
def edit_run_fi : Fi := ⟨44, edit_run_c, edit_run_r, edit_run_an, edit_run_hi, none⟩
theorem edit_run_ok : FiOk Tryd.prog f_edit_run edit_run_fi :=
  ⟨fun _ => by kernel_rfl, fun _ h hlen => fun_sound (by kernel_rfl) (fn := Tryd.f19) (draw_sound _ _) Tryd.func19 rfl (by kernel_rfl : comp Tryd.prog 44 _ edit_run_c = some edit_run_c) (by kernel_rfl : cRes Tryd.prog Tryd.f19.results.toList = some edit_run_r) hlen h, fun _ h => nomatch h⟩

/-- fustian/edit.Apply: slots [0 text, 1 l, 2 text, 3 l, 6 _, 7 e] -/
def edit_Apply_c : SCode :=
  (.seq (.ops [⟨(some 4), .mov (.c (.str [])), none, false, []⟩,
    ⟨(some 5), .mov (.c (.int .i64 0)), none, false, []⟩] none [0, 1])
  (.seq (.ops [⟨(some 9), .mov (.t 0), none, false, []⟩,
    ⟨(some 10), .mov (.t 1), none, false, []⟩,
    ⟨(some 11), .call f_edit_run [(.t 9), (.t 10)], none, false, []⟩,
    ⟨(some 8), .mov (.t 11), none, false, []⟩,
    ⟨(some 12), .extract (.t 8) 0, none, false, []⟩,
    ⟨(some 13), .extract (.t 8) 1, none, false, []⟩,
    ⟨(some 14), .extract (.t 8) 2, none, false, []⟩,
    ⟨(some 0), .mov (.t 12), none, false, []⟩,
    ⟨(some 6), .mov (.t 13), none, false, []⟩,
    ⟨(some 7), .mov (.t 14), none, false, []⟩] none [0, 7])
  (.seq (.ops [⟨(some 15), .mov (.t 0), none, false, []⟩,
    ⟨(some 16), .mov (.t 7), none, false, []⟩,
    ⟨(some 4), .mov (.t 15), none, false, []⟩,
    ⟨(some 5), .mov (.t 16), none, false, []⟩] none [4, 5])
  .ret)))
def edit_Apply_r : List RRes := [.tmp 4, .tmp 5]
def edit_Apply_hi : Hi := ⟨[], [(0, "text"), (1, "l"), (2, "text"), (3, "l"), (7, "e")]⟩
def edit_Apply_an : An := .d
def edit_Apply_fi : Fi := ⟨17, edit_Apply_c, edit_Apply_r, edit_Apply_an, edit_Apply_hi, none⟩
theorem edit_Apply_ok : FiOk Tryd.prog f_edit_Apply edit_Apply_fi :=
  ⟨fun _ => by kernel_rfl, fun _ h hlen => fun_sound (by kernel_rfl) (fn := Tryd.f10) (draw_sound _ _) Tryd.func10 rfl (by kernel_rfl : comp Tryd.prog 17 _ edit_Apply_c = some edit_Apply_c) (by kernel_rfl : cRes Tryd.prog Tryd.f10.results.toList = some edit_Apply_r) hlen h, fun _ h => nomatch h⟩

/-- fustian/spans.May: slots [0 size, 1 l, 2 size, 3 l, 5 last, 6 _, 7 s] -/
def spans_May_c : SCode :=
  (.seq (.ops [⟨(some 4), .mov (.c (.bool false)), none, false, []⟩] none [0, 1])
  (.seq (.seq (.ops [⟨(some 8), .mov (.t 0), none, false, []⟩,
    ⟨(some 9), .bin .none .lss (.t 8) (.c (.int .i64 0)), none, false, []⟩,
    ⟨(some 10), .mov (.t 9), none, true, []⟩,
    ⟨(some 11), .mov (.t 0), (some (10, false)), false, []⟩,
    ⟨(some 12), .bin .none .gtr (.t 11) (.c (.int .i64 600)), (some (10, false)), false, []⟩,
    ⟨(some 13), .pick (.t 10) (.c (.bool true)) (.t 12), none, false, []⟩,
    ⟨(some 14), .mov (.t 13), none, true, []⟩,
    ⟨(some 15), .mov (.t 1), (some (14, false)), false, []⟩,
    ⟨(some 16), .len false (.t 15), (some (14, false)), false, []⟩,
    ⟨(some 17), .bin .none .gtr (.t 16) (.c (.int .i64 40)), (some (14, false)), false, []⟩,
    ⟨(some 18), .pick (.t 14) (.c (.bool true)) (.t 17), none, false, []⟩] none [0, 1, 18])
  (.cond (.t 18)
    (.seq (.ops [⟨(some 4), .mov (.c (.bool false)), none, false, []⟩] none [4])
    .ret)
    .skip))
  (.seq (.ops [⟨(some 5), .mov (.c (.int .i64 (-1))), none, false, []⟩] none [0, 1, 5])
  (.seq (.seq (.ops [⟨(some 19), .mov (.t 1), none, false, []⟩,
    ⟨(some 20), .len false (.t 19), none, false, []⟩,
    ⟨(some 21), .mov (.c (.int .i64 0)), none, false, []⟩] none [0, 5, 19, 20, 21])
  (.block 0 (.loop [0, 19, 20] [5, 21] 0
    (.seq (.ops [⟨(some 22), .bin .none .lss (.t 21) (.t 20), none, false, []⟩] none [0, 5, 19, 20, 21, 22])
    (.seq (.cond (.t 22)
      .skip
      (.exit 0))
    (.seq (.block 1 (.seq (.ops [⟨(some 23), .iaddr 2 none (.t 19) (.t 21), none, false, []⟩,
      ⟨(some 24), .load 2 true (.t 23), none, false, []⟩,
      ⟨(some 7), .alloc 0 [(.int .i64 0), (.int .i64 0)], none, false, []⟩,
      ⟨none, .store 2 (.t 7) (.t 24), none, false, []⟩] none [0, 5, 7, 19, 20, 21])
    (.seq (.seq (.ops [⟨(some 25), .faddr 0 (.t 7), none, false, []⟩,
      ⟨(some 26), .load 1 false (.t 25), none, false, []⟩,
      ⟨(some 27), .mov (.t 5), none, false, []⟩,
      ⟨(some 28), .bin .none .leq (.t 26) (.t 27), none, false, []⟩,
      ⟨(some 29), .mov (.t 28), none, true, []⟩,
      ⟨(some 30), .faddr 0 (.t 7), (some (29, false)), false, []⟩,
      ⟨(some 31), .load 1 false (.t 30), (some (29, false)), false, []⟩,
      ⟨(some 32), .faddr 1 (.t 7), (some (29, false)), false, []⟩,
      ⟨(some 33), .load 1 false (.t 32), (some (29, false)), false, []⟩,
      ⟨(some 34), .bin .none .geq (.t 31) (.t 33), (some (29, false)), false, []⟩,
      ⟨(some 35), .pick (.t 29) (.c (.bool true)) (.t 34), none, false, []⟩,
      ⟨(some 36), .mov (.t 35), none, true, []⟩,
      ⟨(some 37), .faddr 1 (.t 7), (some (36, false)), false, []⟩,
      ⟨(some 38), .load 1 false (.t 37), (some (36, false)), false, []⟩,
      ⟨(some 39), .mov (.t 0), (some (36, false)), false, []⟩,
      ⟨(some 40), .bin .none .gtr (.t 38) (.t 39), (some (36, false)), false, []⟩,
      ⟨(some 41), .pick (.t 36) (.c (.bool true)) (.t 40), none, false, []⟩] none [0, 7, 19, 20, 21, 41])
    (.cond (.t 41)
      (.seq (.ops [⟨(some 4), .mov (.c (.bool false)), none, false, []⟩] none [4])
      .ret)
      .skip))
    (.ops [⟨(some 42), .faddr 1 (.t 7), none, false, []⟩,
      ⟨(some 43), .load 1 false (.t 42), none, false, []⟩,
      ⟨(some 5), .mov (.t 43), none, false, []⟩] none [0, 5, 19, 20, 21]))))
    (.ops [⟨(some 44), .bin .none .add (.t 21) (.c (.int .i64 1)), none, false, []⟩,
      ⟨(some 21), .mov (.t 44), none, false, []⟩] none [0, 5, 19, 20, 21])))))))
  (.seq (.ops [⟨(some 4), .mov (.c (.bool true)), none, false, []⟩] none [4])
  .ret)))))
def spans_May_r : List RRes := [.tmp 4]
def spans_May_hi : Hi := ⟨[(7, (.st (.cons (.int .i64) (.cons (.int .i64) .nil))))], [(0, "size"), (1, "l"), (2, "size"), (3, "l"), (5, "last"), (7, "s")]⟩
def spans_May_an : An := (.seq .d (.seq .d (.seq .d (.seq (.seq .d (.loop [] [] [] .d)) .d))))
def spans_May_fi : Fi := ⟨45, spans_May_c, spans_May_r, spans_May_an, spans_May_hi, none⟩
theorem spans_May_ok : FiOk Tryd.prog f_spans_May spans_May_fi :=
  ⟨fun _ => by kernel_rfl, fun _ h hlen => fun_sound (by kernel_rfl) (fn := Tryd.f20) (draw_sound _ _) Tryd.func20 rfl (by kernel_rfl : comp Tryd.prog 45 _ spans_May_c = some spans_May_c) (by kernel_rfl : cRes Tryd.prog Tryd.f20.results.toList = some spans_May_r) hlen h, fun _ h => nomatch h⟩

/-- slices.Clone[[]fustian/api.Span,fustian/api.Span]: slots [0 s, 1 s] -/
def slices_Clone___api_Span_api_Span__c : SCode :=
  (.seq (.ops [⟨(some 2), .mov (.c .nils), none, false, []⟩] none [0])
  (.seq (.seq (.ops [⟨(some 3), .mov (.t 0), none, false, []⟩,
    ⟨(some 4), .isnil false (.t 3), none, false, []⟩] none [0, 4])
  (.cond (.t 4)
    (.seq (.ops [⟨(some 2), .mov (.c .nils), none, false, []⟩] none [2])
    .ret)
    .skip))
  (.seq (.ops [⟨(some 5), .bslice false 0 2 [] [], none, false, []⟩,
    ⟨(some 6), .mov (.t 0), none, false, []⟩,
    ⟨(some 7), .append 2 16 (.t 5) (.t 6), none, false, []⟩,
    ⟨(some 2), .mov (.t 7), none, false, []⟩] none [2])
  .ret)))
def slices_Clone___api_Span_api_Span__r : List RRes := [.tmp 2]
def slices_Clone___api_Span_api_Span__hi : Hi := ⟨[(5, (.st (.cons (.int .i64) (.cons (.int .i64) .nil)))), (7, (.st (.cons (.int .i64) (.cons (.int .i64) .nil))))], [(0, "s"), (1, "s")]⟩
def slices_Clone___api_Span_api_Span__an : An := .d
def slices_Clone___api_Span_api_Span__fi : Fi := ⟨8, slices_Clone___api_Span_api_Span__c, slices_Clone___api_Span_api_Span__r, slices_Clone___api_Span_api_Span__an, slices_Clone___api_Span_api_Span__hi, none⟩
theorem slices_Clone___api_Span_api_Span__ok : FiOk Tryd.prog f_slices_Clone___api_Span_api_Span_ slices_Clone___api_Span_api_Span__fi :=
  ⟨fun _ => by kernel_rfl, fun _ h hlen => fun_sound (by kernel_rfl) (fn := Tryd.f36) (draw_sound _ _) Tryd.func36 rfl (by kernel_rfl : comp Tryd.prog 8 _ slices_Clone___api_Span_api_Span__c = some slices_Clone___api_Span_api_Span__c) (by kernel_rfl : cRes Tryd.prog Tryd.f36.results.toList = some slices_Clone___api_Span_api_Span__r) hlen h, fun _ h => nomatch h⟩

/-- fustian/spans.Without: slots [0 l, 1 s, 2 l, 3 s, 5 out, 6 _, 7 x] -/
def spans_Without_c : SCode :=
  (.seq (.ops [⟨(some 3), .box 0 (.t 1), none, false, []⟩,
    ⟨(some 4), .mov (.c .nils), none, false, []⟩] none [0, 3])
  (.seq (.ops [⟨(some 5), .newnil 2, none, false, []⟩] none [0, 3, 5])
  (.seq (.seq (.ops [⟨(some 8), .mov (.t 0), none, false, []⟩,
    ⟨(some 9), .len false (.t 8), none, false, []⟩,
    ⟨(some 10), .mov (.c (.int .i64 0)), none, false, []⟩] none [0, 3, 5, 8, 9, 10])
  (.block 0 (.loop [0, 3, 8, 9] [5, 10] 2
    (.seq (.ops [⟨(some 11), .bin .none .lss (.t 10) (.t 9), none, false, []⟩] none [0, 3, 5, 8, 9, 10, 11])
    (.seq (.cond (.t 11)
      .skip
      (.exit 0))
    (.seq (.block 1 (.seq (.ops [⟨(some 12), .iaddr 2 none (.t 8) (.t 10), none, false, []⟩,
      ⟨(some 13), .load 2 true (.t 12), none, false, []⟩,
      ⟨(some 7), .alloc 0 [(.int .i64 0), (.int .i64 0)], none, false, []⟩,
      ⟨none, .store 2 (.t 7) (.t 13), none, false, []⟩] none [0, 3, 5, 7, 8, 9, 10])
    (.ops [⟨(some 14), .mov (.t 5), none, false, []⟩,
      ⟨(some 15), .faddr 0 (.t 7), none, false, []⟩,
      ⟨(some 16), .load 1 false (.t 15), none, false, []⟩,
      ⟨(some 17), .faddr 1 (.t 7), none, false, []⟩,
      ⟨(some 18), .load 1 false (.t 17), none, false, []⟩,
      ⟨(some 19), .faddr 0 (.t 7), none, false, []⟩,
      ⟨(some 20), .load 1 false (.t 19), none, false, []⟩,
      ⟨(some 21), .faddr 0 (.t 3), none, false, []⟩,
      ⟨(some 22), .load 1 false (.t 21), none, false, []⟩,
      ⟨(some 23), .max [(.t 20), (.t 22)], none, false, []⟩,
      ⟨(some 24), .min [(.t 18), (.t 23)], none, false, []⟩,
      ⟨(some 25), .build [(.int .i64 0), (.int .i64 0)] [(0, 1, (.t 16)), (1, 1, (.t 24))], none, false, []⟩,
      ⟨(some 26), .faddr 0 (.t 7), none, false, []⟩,
      ⟨(some 27), .load 1 false (.t 26), none, false, []⟩,
      ⟨(some 28), .faddr 1 (.t 7), none, false, []⟩,
      ⟨(some 29), .load 1 false (.t 28), none, false, []⟩,
      ⟨(some 30), .faddr 1 (.t 3), none, false, []⟩,
      ⟨(some 31), .load 1 false (.t 30), none, false, []⟩,
      ⟨(some 32), .min [(.t 29), (.t 31)], none, false, []⟩,
      ⟨(some 33), .max [(.t 27), (.t 32)], none, false, []⟩,
      ⟨(some 34), .faddr 1 (.t 7), none, false, []⟩,
      ⟨(some 35), .load 1 false (.t 34), none, false, []⟩,
      ⟨(some 36), .build [(.int .i64 0), (.int .i64 0)] [(0, 1, (.t 33)), (1, 1, (.t 35))], none, false, []⟩,
      ⟨(some 37), .bslice true 2 2 [(.int .i64 0), (.int .i64 0), (.int .i64 0), (.int .i64 0)] [(0, 2, (.t 25)), (2, 2, (.t 36))], none, false, []⟩,
      ⟨(some 38), .append 2 16 (.t 14) (.t 37), none, false, []⟩,
      ⟨(some 5), .mov (.t 38), none, false, []⟩] none [0, 3, 5, 8, 9, 10])))
    (.ops [⟨(some 39), .bin .none .add (.t 10) (.c (.int .i64 1)), none, false, []⟩,
      ⟨(some 10), .mov (.t 39), none, false, []⟩] none [0, 3, 5, 8, 9, 10])))))))
  (.seq (.seq (.ops [⟨(some 40), .faddr 0 (.t 3), none, false, []⟩,
    ⟨(some 41), .load 1 false (.t 40), none, false, []⟩,
    ⟨(some 42), .faddr 1 (.t 3), none, false, []⟩,
    ⟨(some 43), .load 1 false (.t 42), none, false, []⟩,
    ⟨(some 44), .bin .none .eql (.t 41) (.t 43), none, false, []⟩] none [0, 5, 44])
  (.cond (.t 44)
    (.seq (.ops [⟨(some 45), .mov (.t 0), none, false, []⟩,
      ⟨(some 46), .call f_slices_Clone___api_Span_api_Span_ [(.t 45)], none, false, []⟩,
      ⟨(some 4), .mov (.t 46), none, false, []⟩] none [4])
    .ret)
    .skip))
  (.seq (.ops [⟨(some 47), .mov (.t 5), none, false, []⟩,
    ⟨(some 48), .call f_slices_DeleteFunc___api_Span_api_Span_ [(.t 47), (.c (.fn (.func f_spans_Without_1) [] []))], none, false, []⟩,
    ⟨(some 4), .mov (.t 48), none, false, []⟩] none [4])
  .ret)))))
def spans_Without_r : List RRes := [.tmp 4]
def spans_Without_hi : Hi := ⟨[(5, (.st (.cons (.int .i64) (.cons (.int .i64) .nil)))), (37, (.st (.cons (.int .i64) (.cons (.int .i64) .nil)))), (38, (.st (.cons (.int .i64) (.cons (.int .i64) .nil)))), (3, (.st (.cons (.int .i64) (.cons (.int .i64) .nil)))), (7, (.st (.cons (.int .i64) (.cons (.int .i64) .nil))))], [(0, "l"), (1, "s"), (2, "l"), (3, "s"), (5, "out"), (7, "x")]⟩
def spans_Without_an : An := (.seq .d (.seq .d (.seq (.seq .d (.loop [5] [] [] .d)) .d)))
def spans_Without_fi : Fi := ⟨49, spans_Without_c, spans_Without_r, spans_Without_an, spans_Without_hi, none⟩
theorem spans_Without_ok : FiOk Tryd.prog f_spans_Without spans_Without_fi :=
  ⟨fun _ => by kernel_rfl, fun _ h hlen => fun_sound (by kernel_rfl) (fn := Tryd.f28) (draw_sound _ _) Tryd.func28 rfl (by kernel_rfl : comp Tryd.prog 49 _ spans_Without_c = some spans_Without_c) (by kernel_rfl : cRes Tryd.prog Tryd.f28.results.toList = some spans_Without_r) hlen h, fun _ h => nomatch h⟩

/-- fustian/spans.Joined: slots [0 l, 1 l, 3 out, 4 _, 5 s, 6 n] -/
def spans_Joined_c : SCode :=
  (.seq (.ops [⟨(some 2), .mov (.c .nils), none, false, []⟩] none [0])
  (.seq (.ops [⟨(some 3), .newnil 2, none, false, []⟩] none [0, 3])
  (.seq (.seq (.ops [⟨(some 7), .mov (.t 0), none, false, []⟩,
    ⟨(some 8), .len false (.t 7), none, false, []⟩,
    ⟨(some 9), .mov (.c (.int .i64 0)), none, false, []⟩] none [3, 7, 8, 9])
  (.block 0 (.loop [7, 8] [3, 9] 1
    (.seq (.ops [⟨(some 10), .bin .none .lss (.t 9) (.t 8), none, false, []⟩] none [3, 7, 8, 9, 10])
    (.seq (.cond (.t 10)
      .skip
      (.exit 0))
    (.join [7, 8, 9] [3] 2 (.block 1 (.seq (.ops [⟨(some 11), .iaddr 2 none (.t 7) (.t 9), none, false, []⟩,
        ⟨(some 12), .load 2 true (.t 11), none, false, []⟩,
        ⟨(some 5), .alloc 0 [(.int .i64 0), (.int .i64 0)], none, false, []⟩,
        ⟨none, .store 2 (.t 5) (.t 12), none, false, []⟩] none [3, 5, 7, 8, 9])
      (.seq (.ops [⟨(some 13), .mov (.t 3), none, false, []⟩,
        ⟨(some 14), .len false (.t 13), none, false, []⟩,
        ⟨(some 6), .mov (.t 14), none, false, []⟩] none [3, 5, 6, 7, 8, 9])
      (.block 2 (.seq (.ops [⟨(some 20), .faddr 0 (.t 5), none, false, []⟩,
        ⟨(some 21), .load 1 false (.t 20), none, false, []⟩,
        ⟨(some 22), .faddr 1 (.t 5), none, false, []⟩,
        ⟨(some 23), .load 1 false (.t 22), none, false, []⟩,
        ⟨(some 24), .bin .none .eql (.t 21) (.t 23), none, false, []⟩,
        ⟨(some 19), .mov (.t 24), none, false, []⟩] none [3, 5, 6, 7, 8, 9, 19])
      (.cond (.t 19)
        .skip
        (.seq (.ops [⟨(some 26), .mov (.t 6), none, false, []⟩,
          ⟨(some 27), .bin .none .gtr (.t 26) (.c (.int .i64 0)), none, false, []⟩,
          ⟨(some 28), .mov (.t 27), none, true, []⟩,
          ⟨(some 29), .mov (.t 3), (some (28, true)), false, []⟩,
          ⟨(some 30), .mov (.t 6), (some (28, true)), false, []⟩,
          ⟨(some 31), .bin .none .sub (.t 30) (.c (.int .i64 1)), (some (28, true)), false, []⟩,
          ⟨(some 32), .iaddr 2 none (.t 29) (.t 31), (some (28, true)), false, []⟩,
          ⟨(some 33), .faddr 1 (.t 32), (some (28, true)), false, []⟩,
          ⟨(some 34), .load 1 false (.t 33), (some (28, true)), false, []⟩,
          ⟨(some 35), .faddr 0 (.t 5), (some (28, true)), false, []⟩,
          ⟨(some 36), .load 1 false (.t 35), (some (28, true)), false, []⟩,
          ⟨(some 37), .bin .none .geq (.t 34) (.t 36), (some (28, true)), false, []⟩,
          ⟨(some 38), .pick (.t 28) (.t 37) (.c (.bool false)), none, false, []⟩,
          ⟨(some 25), .mov (.t 38), none, false, []⟩] (some (0, 0, [0, 1, 2, 3, 4, 5, 6, 7, 8, 9, 10, 11, 12, 13])) [3, 5, 6, 7, 8, 9, 25])
        (.cond (.t 25)
          (.ops [⟨(some 39), .mov (.t 3), none, false, []⟩,
            ⟨(some 40), .mov (.t 6), none, false, []⟩,
            ⟨(some 41), .bin .none .sub (.t 40) (.c (.int .i64 1)), none, false, []⟩,
            ⟨(some 42), .mov (.t 3), none, false, []⟩,
            ⟨(some 43), .mov (.t 6), none, false, []⟩,
            ⟨(some 44), .bin .none .sub (.t 43) (.c (.int .i64 1)), none, false, []⟩,
            ⟨(some 45), .iaddr 2 none (.t 42) (.t 44), none, false, []⟩,
            ⟨(some 46), .faddr 1 (.t 45), none, false, []⟩,
            ⟨(some 47), .load 1 false (.t 46), none, false, []⟩,
            ⟨(some 48), .faddr 1 (.t 5), none, false, []⟩,
            ⟨(some 49), .load 1 false (.t 48), none, false, []⟩,
            ⟨(some 50), .max [(.t 47), (.t 49)], none, false, []⟩,
            ⟨(some 51), .iaddr 2 none (.t 39) (.t 41), none, false, []⟩,
            ⟨(some 52), .faddr 1 (.t 51), none, false, []⟩,
            ⟨none, .store 1 (.t 52) (.t 50), none, false, []⟩] (some (0, 0, [0, 1, 2, 3, 4, 5, 6, 7, 8, 9, 10, 11, 12, 13, 14])) [3, 7, 8, 9])
          (.ops [⟨(some 15), .mov (.t 3), none, false, []⟩,
            ⟨(some 16), .load 2 true (.t 5), none, false, []⟩,
            ⟨(some 17), .bslice true 1 2 [(.int .i64 0), (.int .i64 0)] [(0, 2, (.t 16))], none, false, []⟩,
            ⟨(some 18), .append 2 16 (.t 15) (.t 17), none, false, []⟩,
            ⟨(some 3), .mov (.t 18), none, false, []⟩] none [3, 7, 8, 9])))))))))
    (.ops [⟨(some 53), .bin .none .add (.t 9) (.c (.int .i64 1)), none, false, []⟩,
      ⟨(some 9), .mov (.t 53), none, false, []⟩] none [3, 7, 8, 9])))))))
  (.seq (.ops [⟨(some 54), .mov (.t 3), none, false, []⟩,
    ⟨(some 2), .mov (.t 54), none, false, []⟩] none [2])
  .ret))))
def spans_Joined_r : List RRes := [.tmp 2]
def spans_Joined_hi : Hi := ⟨[(3, (.st (.cons (.int .i64) (.cons (.int .i64) .nil)))), (17, (.st (.cons (.int .i64) (.cons (.int .i64) .nil)))), (18, (.st (.cons (.int .i64) (.cons (.int .i64) .nil)))), (5, (.st (.cons (.int .i64) (.cons (.int .i64) .nil))))], [(0, "l"), (1, "l"), (3, "out"), (5, "s"), (6, "n")]⟩
def spans_Joined_an : An := (.seq .d (.seq .d (.seq (.seq .d (.loop [3] [] [] .d)) .d)))
def spans_Joined_fi : Fi := ⟨55, spans_Joined_c, spans_Joined_r, spans_Joined_an, spans_Joined_hi, none⟩
theorem spans_Joined_ok : FiOk Tryd.prog f_spans_Joined spans_Joined_fi :=
  ⟨fun _ => by kernel_rfl, fun _ h hlen => fun_sound (by kernel_rfl) (fn := Tryd.f30) (draw_sound _ _) Tryd.func30 rfl (by kernel_rfl : comp Tryd.prog 55 _ spans_Joined_c = some spans_Joined_c) (by kernel_rfl : cRes Tryd.prog Tryd.f30.results.toList = some spans_Joined_r) hlen h, fun _ h => nomatch h⟩

/-- fustian/spans.With: slots [0 l, 1 s, 2 l, 3 s, 5 i, 6 _] -/
def spans_With_c : SCode :=
  (.seq (.ops [⟨(some 3), .box 0 (.t 1), none, false, []⟩,
    ⟨(some 4), .mov (.c .nils), none, false, []⟩] none [0, 3])
  (.seq (.ops [⟨(some 8), .mov (.t 0), none, false, []⟩,
    ⟨(some 9), .faddr 0 (.t 3), none, false, []⟩,
    ⟨(some 10), .load 1 false (.t 9), none, false, []⟩,
    ⟨(some 11), .call f_slices_BinarySearchFunc___api_Span_api_Span_int_ [(.t 8), (.t 10), (.c (.fn (.func f_spans_With_1) [] []))], none, false, []⟩,
    ⟨(some 7), .mov (.t 11), none, false, []⟩,
    ⟨(some 12), .extract (.t 7) 0, none, false, []⟩,
    ⟨(some 13), .extract (.t 7) 1, none, false, []⟩,
    ⟨(some 5), .mov (.t 12), none, false, []⟩,
    ⟨(some 6), .mov (.t 13), none, false, []⟩] none [0, 3, 5])
  (.seq (.ops [⟨(some 14), .mov (.t 0), none, false, []⟩,
    ⟨(some 16), .mov (.t 5), none, false, []⟩,
    ⟨(some 17), .load 2 true (.t 3), none, false, []⟩,
    ⟨(some 18), .bslice true 1 2 [(.int .i64 0), (.int .i64 0)] [(0, 2, (.t 17))], none, false, []⟩,
    ⟨(some 15), .call f_slices_Clone___api_Span_api_Span_ [(.t 14)], none, false, [(17, 2, true, (.t 3))]⟩,
    ⟨none, .again 17 2 true (.t 3), none, false, []⟩,
    ⟨(some 19), .call f_slices_Insert___api_Span_api_Span_ [(.t 15), (.t 16), (.t 18)], none, false, []⟩,
    ⟨(some 20), .call f_spans_Joined [(.t 19)], none, false, []⟩,
    ⟨(some 4), .mov (.t 20), none, false, []⟩] (some (0, 0, [0, 2, 3, 4, 1, 5, 6, 7])) [4])
  .ret)))
def spans_With_r : List RRes := [.tmp 4]
def spans_With_hi : Hi := ⟨[(18, (.st (.cons (.int .i64) (.cons (.int .i64) .nil)))), (3, (.st (.cons (.int .i64) (.cons (.int .i64) .nil))))], [(0, "l"), (1, "s"), (2, "l"), (3, "s"), (5, "i")]⟩
def spans_With_an : An := .d
def spans_With_fi : Fi := ⟨21, spans_With_c, spans_With_r, spans_With_an, spans_With_hi, none⟩
theorem spans_With_ok : FiOk Tryd.prog f_spans_With spans_With_fi :=
  ⟨fun _ => by kernel_rfl, fun _ h hlen => fun_sound (by kernel_rfl) (fn := Tryd.f29) (draw_sound _ _) Tryd.func29 rfl (by kernel_rfl : comp Tryd.prog 21 _ spans_With_c = some spans_With_c) (by kernel_rfl : cRes Tryd.prog Tryd.f29.results.toList = some spans_With_r) hlen h, fun _ h => nomatch h⟩

/-- fustian/spans.Shifted: slots [0 l, 1 e, 2 l, 3 e, 5 out, 6 _, 7 s, 8 by] -/
def spans_Shifted_c : SCode :=
  (.seq (.ops [⟨(some 3), .box 0 (.t 1), none, false, []⟩,
    ⟨(some 4), .mov (.c .nils), none, false, []⟩] none [0, 3])
  (.seq (.ops [⟨(some 5), .newnil 2, none, false, []⟩] none [0, 3, 5])
  (.seq (.seq (.ops [⟨(some 9), .mov (.t 0), none, false, []⟩,
    ⟨(some 10), .faddr 0 (.t 3), none, false, []⟩,
    ⟨(some 11), .load 1 false (.t 10), none, false, []⟩,
    ⟨(some 12), .faddr 0 (.t 3), none, false, []⟩,
    ⟨(some 13), .load 1 false (.t 12), none, false, []⟩,
    ⟨(some 14), .faddr 1 (.t 3), none, false, []⟩,
    ⟨(some 15), .load 1 false (.t 14), none, false, []⟩,
    ⟨(some 16), .bin .none .add (.t 13) (.t 15), none, false, []⟩,
    ⟨(some 17), .build [(.int .i64 0), (.int .i64 0)] [(0, 1, (.t 11)), (1, 1, (.t 16))], none, false, []⟩,
    ⟨(some 18), .call f_spans_Without [(.t 9), (.t 17)], none, false, []⟩,
    ⟨(some 19), .len false (.t 18), none, false, []⟩,
    ⟨(some 20), .mov (.c (.int .i64 0)), none, false, []⟩] none [3, 5, 18, 19, 20])
  (.block 0 (.loop [3, 18, 19] [5, 20] 2
    (.seq (.ops [⟨(some 21), .bin .none .lss (.t 20) (.t 19), none, false, []⟩] none [3, 5, 18, 19, 20, 21])
    (.seq (.cond (.t 21)
      .skip
      (.exit 0))
    (.seq (.block 1 (.seq (.ops [⟨(some 22), .iaddr 2 none (.t 18) (.t 20), none, false, []⟩,
      ⟨(some 23), .load 2 true (.t 22), none, false, []⟩,
      ⟨(some 7), .alloc 0 [(.int .i64 0), (.int .i64 0)], none, false, []⟩,
      ⟨none, .store 2 (.t 7) (.t 23), none, false, []⟩] none [3, 5, 7, 18, 19, 20])
    (.join [3, 7, 18, 19, 20] [5] 3 (.seq (.ops [⟨(some 24), .faddr 0 (.t 7), none, false, []⟩,
        ⟨(some 25), .load 1 false (.t 24), none, false, []⟩,
        ⟨(some 26), .faddr 0 (.t 3), none, false, []⟩,
        ⟨(some 27), .load 1 false (.t 26), none, false, []⟩,
        ⟨(some 28), .bin .none .lss (.t 25) (.t 27), none, false, []⟩,
        ⟨(some 29), .mov (.t 28), none, true, []⟩,
        ⟨(some 30), .faddr 1 (.t 7), (some (29, true)), false, []⟩,
        ⟨(some 31), .load 1 false (.t 30), (some (29, true)), false, []⟩,
        ⟨(some 32), .faddr 0 (.t 3), (some (29, true)), false, []⟩,
        ⟨(some 33), .load 1 false (.t 32), (some (29, true)), false, []⟩,
        ⟨(some 34), .bin .none .gtr (.t 31) (.t 33), (some (29, true)), false, []⟩,
        ⟨(some 35), .pick (.t 29) (.t 34) (.c (.bool false)), none, false, []⟩] none [3, 5, 7, 18, 19, 20, 35])
      (.cond (.t 35)
        (.seq (.ops [⟨(some 36), .mov (.t 5), none, false, []⟩,
          ⟨(some 37), .faddr 0 (.t 7), none, false, []⟩,
          ⟨(some 38), .load 1 false (.t 37), none, false, []⟩,
          ⟨(some 39), .faddr 0 (.t 3), none, false, []⟩,
          ⟨(some 40), .load 1 false (.t 39), none, false, []⟩,
          ⟨(some 41), .build [(.int .i64 0), (.int .i64 0)] [(0, 1, (.t 38)), (1, 1, (.t 40))], none, false, []⟩,
          ⟨(some 42), .bslice true 1 2 [(.int .i64 0), (.int .i64 0)] [(0, 2, (.t 41))], none, false, []⟩,
          ⟨(some 43), .append 2 16 (.t 36) (.t 42), none, false, []⟩,
          ⟨(some 5), .mov (.t 43), none, false, []⟩] none [3, 5, 7, 18, 19, 20])
        (.ops [⟨(some 44), .faddr 0 (.t 3), none, false, []⟩,
          ⟨(some 45), .load 1 false (.t 44), none, false, []⟩,
          ⟨(some 46), .faddr 0 (.t 7), none, false, []⟩,
          ⟨none, .store 1 (.t 46) (.t 45), none, false, []⟩] none [3, 5, 7, 18, 19, 20]))
        .skip))
    (.join [3, 5, 7, 18, 19, 20] [] 3 (.seq (.ops [⟨(some 47), .faddr 0 (.t 7), none, false, []⟩,
        ⟨(some 48), .load 1 false (.t 47), none, false, []⟩,
        ⟨(some 49), .faddr 0 (.t 3), none, false, []⟩,
        ⟨(some 50), .load 1 false (.t 49), none, false, []⟩,
        ⟨(some 51), .bin .none .geq (.t 48) (.t 50), none, false, []⟩] none [3, 5, 7, 18, 19, 20, 51])
      (.cond (.t 51)
        (.seq (.ops [⟨(some 52), .faddr 2 (.t 3), none, false, []⟩,
          ⟨(some 53), .load 1 false (.t 52), none, false, []⟩,
          ⟨(some 54), .len true (.t 53), none, false, []⟩,
          ⟨(some 55), .faddr 1 (.t 3), none, false, []⟩,
          ⟨(some 56), .load 1 false (.t 55), none, false, []⟩,
          ⟨(some 57), .bin .none .sub (.t 54) (.t 56), none, false, []⟩,
          ⟨(some 8), .mov (.t 57), none, false, []⟩] none [3, 5, 7, 8, 18, 19, 20])
        (.ops [⟨(some 58), .faddr 0 (.t 7), none, false, []⟩,
          ⟨(some 59), .load 1 false (.t 58), none, false, []⟩,
          ⟨(some 60), .mov (.t 8), none, false, []⟩,
          ⟨(some 61), .bin .none .add (.t 59) (.t 60), none, false, []⟩,
          ⟨(some 62), .faddr 1 (.t 7), none, false, []⟩,
          ⟨(some 63), .load 1 false (.t 62), none, false, []⟩,
          ⟨(some 64), .mov (.t 8), none, false, []⟩,
          ⟨(some 65), .bin .none .add (.t 63) (.t 64), none, false, []⟩,
          ⟨(some 66), .build [(.int .i64 0), (.int .i64 0)] [(0, 1, (.t 61)), (1, 1, (.t 65))], none, false, []⟩,
          ⟨none, .store 2 (.t 7) (.t 66), none, false, []⟩] none [3, 5, 7, 18, 19, 20]))
        .skip))
    (.ops [⟨(some 67), .mov (.t 5), none, false, []⟩,
      ⟨(some 68), .load 2 true (.t 7), none, false, []⟩,
      ⟨(some 69), .bslice true 1 2 [(.int .i64 0), (.int .i64 0)] [(0, 2, (.t 68))], none, false, []⟩,
      ⟨(some 70), .append 2 16 (.t 67) (.t 69), none, false, []⟩,
      ⟨(some 5), .mov (.t 70), none, false, []⟩] none [3, 5, 18, 19, 20])))))
    (.ops [⟨(some 71), .bin .none .add (.t 20) (.c (.int .i64 1)), none, false, []⟩,
      ⟨(some 20), .mov (.t 71), none, false, []⟩] none [3, 5, 18, 19, 20])))))))
  (.seq (.ops [⟨(some 72), .mov (.t 5), none, false, []⟩,
    ⟨(some 74), .faddr 0 (.t 3), none, false, []⟩,
    ⟨(some 75), .load 1 false (.t 74), none, false, []⟩,
    ⟨(some 76), .faddr 0 (.t 3), none, false, []⟩,
    ⟨(some 77), .load 1 false (.t 76), none, false, []⟩,
    ⟨(some 78), .faddr 2 (.t 3), none, false, []⟩,
    ⟨(some 79), .load 1 false (.t 78), none, false, []⟩,
    ⟨(some 80), .len true (.t 79), none, false, []⟩,
    ⟨(some 81), .bin .none .add (.t 77) (.t 80), none, false, []⟩,
    ⟨(some 82), .build [(.int .i64 0), (.int .i64 0)] [(0, 1, (.t 75)), (1, 1, (.t 81))], none, false, []⟩,
    ⟨(some 73), .call f_spans_Joined [(.t 72)], none, false, [(75, 1, false, (.t 74)), (77, 1, false, (.t 76)), (79, 1, false, (.t 78))]⟩,
    ⟨none, .again 75 1 false (.t 74), none, false, []⟩,
    ⟨none, .again 77 1 false (.t 76), none, false, []⟩,
    ⟨none, .again 79 1 false (.t 78), none, false, []⟩,
    ⟨(some 83), .call f_spans_With [(.t 73), (.t 82)], none, false, []⟩,
    ⟨(some 4), .mov (.t 83), none, false, []⟩] (some (0, 0, [0, 2, 3, 4, 5, 6, 7, 8, 9, 10, 1, 11, 12])) [4])
  .ret))))
def spans_Shifted_r : List RRes := [.tmp 4]
def spans_Shifted_hi : Hi := ⟨[(5, (.st (.cons (.int .i64) (.cons (.int .i64) .nil)))), (42, (.st (.cons (.int .i64) (.cons (.int .i64) .nil)))), (43, (.st (.cons (.int .i64) (.cons (.int .i64) .nil)))), (69, (.st (.cons (.int .i64) (.cons (.int .i64) .nil)))), (70, (.st (.cons (.int .i64) (.cons (.int .i64) .nil)))), (3, (.st (.cons (.int .i64) (.cons (.int .i64) (.cons .str .nil))))), (7, (.st (.cons (.int .i64) (.cons (.int .i64) .nil))))], [(0, "l"), (1, "e"), (2, "l"), (3, "e"), (5, "out"), (7, "s"), (8, "by")]⟩
def spans_Shifted_an : An := (.seq .d (.seq .d (.seq (.seq .d (.loop [5] [] [] .d)) .d)))
def spans_Shifted_fi : Fi := ⟨84, spans_Shifted_c, spans_Shifted_r, spans_Shifted_an, spans_Shifted_hi, none⟩
theorem spans_Shifted_ok : FiOk Tryd.prog f_spans_Shifted spans_Shifted_fi :=
  ⟨fun _ => by kernel_rfl, fun _ h hlen => fun_sound (by kernel_rfl) (fn := Tryd.f23) (draw_sound _ _) Tryd.func23 rfl (by kernel_rfl : comp Tryd.prog 84 _ spans_Shifted_c = some spans_Shifted_c) (by kernel_rfl : cRes Tryd.prog Tryd.f23.results.toList = some spans_Shifted_r) hlen h, fun _ h => nomatch h⟩

/-- fustian/spans.Shift: slots [0 size, 1 l, 2 e, 3 size, 4 l, 5 e, 8 f] -/
def spans_Shift_c : SCode :=
  (.seq (.ops [⟨(some 5), .box 0 (.t 2), none, false, []⟩,
    ⟨(some 6), .mov (.c .nils), none, false, []⟩,
    ⟨(some 7), .mov (.c (.int .i64 0)), none, false, []⟩] none [0, 1, 5])
  (.seq (.seq (.ops [⟨(some 9), .mov (.t 0), none, false, []⟩,
    ⟨(some 10), .mov (.t 1), none, false, []⟩,
    ⟨(some 11), .call f_spans_May [(.t 9), (.t 10)], none, false, []⟩,
    ⟨(some 12), .not (.t 11), none, false, []⟩] none [0, 1, 5, 12])
  (.cond (.t 12)
    (.seq (.ops [⟨(some 6), .mov (.c .nils), none, false, []⟩,
      ⟨(some 7), .mov (.c (.int .i64 4)), none, false, []⟩] none [6, 7])
    .ret)
    .skip))
  (.seq (.seq (.ops [⟨(some 13), .mov (.t 0), none, false, []⟩,
    ⟨(some 14), .load 3 true (.t 5), none, false, []⟩,
    ⟨(some 15), .call f_edit_Check [(.t 13), (.t 14)], none, false, []⟩,
    ⟨(some 8), .mov (.t 15), none, false, []⟩] none [1, 5, 8])
  (.seq (.ops [⟨(some 16), .mov (.t 8), none, false, []⟩,
    ⟨(some 17), .bin .none .neq (.t 16) (.c (.int .i64 0)), none, false, []⟩] none [1, 5, 8, 17])
  (.cond (.t 17)
    (.seq (.ops [⟨(some 18), .mov (.t 8), none, false, []⟩,
      ⟨(some 6), .mov (.c .nils), none, false, []⟩,
      ⟨(some 7), .mov (.t 18), none, false, []⟩] none [6, 7])
    .ret)
    .skip)))
  (.seq (.ops [⟨(some 19), .mov (.t 1), none, false, []⟩,
    ⟨(some 20), .load 3 true (.t 5), none, false, []⟩,
    ⟨(some 21), .call f_spans_Shifted [(.t 19), (.t 20)], none, false, []⟩,
    ⟨(some 22), .call f_spans_full [(.t 21)], none, false, []⟩,
    ⟨(some 23), .extract (.t 22) 0, none, false, []⟩,
    ⟨(some 24), .extract (.t 22) 1, none, false, []⟩,
    ⟨(some 6), .mov (.t 23), none, false, []⟩,
    ⟨(some 7), .mov (.t 24), none, false, []⟩] none [6, 7])
  .ret))))
def spans_Shift_r : List RRes := [.tmp 6, .tmp 7]
def spans_Shift_hi : Hi := ⟨[(5, (.st (.cons (.int .i64) (.cons (.int .i64) (.cons .str .nil)))))], [(0, "size"), (1, "l"), (2, "e"), (3, "size"), (4, "l"), (5, "e"), (8, "f")]⟩
def spans_Shift_an : An := .d
def spans_Shift_fi : Fi := ⟨25, spans_Shift_c, spans_Shift_r, spans_Shift_an, spans_Shift_hi, none⟩
theorem spans_Shift_ok : FiOk Tryd.prog f_spans_Shift spans_Shift_fi :=
  ⟨fun _ => by kernel_rfl, fun _ h hlen => fun_sound (by kernel_rfl) (fn := Tryd.f11) (draw_sound _ _) Tryd.func11 rfl (by kernel_rfl : comp Tryd.prog 25 _ spans_Shift_c = some spans_Shift_c) (by kernel_rfl : cRes Tryd.prog Tryd.f11.results.toList = some spans_Shift_r) hlen h, fun _ h => nomatch h⟩

/-- fustian/spans.Widened: slots [0 text, 1 s, 2 text, 3 s, 5 i] -/
def spans_Widened_c : SCode :=
  (.seq (.ops [⟨(some 3), .box 0 (.t 1), none, false, []⟩,
    ⟨(some 4), .alloc 0 [(.int .i64 0), (.int .i64 0)], none, false, []⟩] none [0, 3, 4])
  (.seq (.ops [⟨(some 6), .mov (.t 0), none, false, []⟩,
    ⟨(some 7), .faddr 0 (.t 3), none, false, []⟩,
    ⟨(some 8), .load 1 false (.t 7), none, false, []⟩,
    ⟨(some 9), .slice 0 (.t 6) none (some (.t 8)), none, false, []⟩,
    ⟨(some 10), .call f_strings_LastIndexByte [(.t 9), (.c (.int .u8 10))], none, false, []⟩,
    ⟨(some 11), .bin .none .add (.t 10) (.c (.int .i64 1)), none, false, []⟩,
    ⟨(some 12), .faddr 0 (.t 3), none, false, []⟩,
    ⟨none, .store 1 (.t 12) (.t 11), none, false, []⟩] none [0, 3, 4])
  (.join [3, 4] [] 2 (.seq (.ops [⟨(some 13), .mov (.t 0), none, false, []⟩,
      ⟨(some 14), .faddr 1 (.t 3), none, false, []⟩,
      ⟨(some 15), .load 1 false (.t 14), none, false, []⟩,
      ⟨(some 16), .slice 0 (.t 13) (some (.t 15)) none, none, false, []⟩,
      ⟨(some 17), .call f_strings_IndexByte [(.t 16), (.c (.int .u8 10))], none, false, []⟩,
      ⟨(some 5), .mov (.t 17), none, false, []⟩] none [0, 3, 4, 5])
    (.seq (.ops [⟨(some 18), .mov (.t 5), none, false, []⟩,
      ⟨(some 19), .bin .none .geq (.t 18) (.c (.int .i64 0)), none, false, []⟩] none [0, 3, 4, 5, 19])
    (.cond (.t 19)
      (.ops [⟨(some 20), .faddr 1 (.t 3), none, false, []⟩,
        ⟨(some 21), .load 1 false (.t 20), none, false, []⟩,
        ⟨(some 22), .mov (.t 5), none, false, []⟩,
        ⟨(some 23), .bin .none .add (.t 22) (.c (.int .i64 1)), none, false, []⟩,
        ⟨(some 24), .bin .none .add (.t 21) (.t 23), none, false, []⟩,
        ⟨(some 25), .faddr 1 (.t 3), none, false, []⟩,
        ⟨none, .store 1 (.t 25) (.t 24), none, false, []⟩] none [3, 4])
      (.ops [⟨(some 26), .mov (.t 0), none, false, []⟩,
        ⟨(some 27), .len true (.t 26), none, false, []⟩,
        ⟨(some 28), .faddr 1 (.t 3), none, false, []⟩,
        ⟨none, .store 1 (.t 28) (.t 27), none, false, []⟩] none [3, 4]))))
  (.seq (.ops [⟨(some 29), .load 2 true (.t 3), none, false, []⟩,
    ⟨none, .store 2 (.t 4) (.t 29), none, false, []⟩] none [4])
  .ret))))
def spans_Widened_r : List RRes := [.cell 4 2 true]
def spans_Widened_hi : Hi := ⟨[(3, (.st (.cons (.int .i64) (.cons (.int .i64) .nil)))), (4, (.st (.cons (.int .i64) (.cons (.int .i64) .nil))))], [(0, "text"), (1, "s"), (2, "text"), (3, "s"), (5, "i")]⟩
def spans_Widened_an : An := .d
def spans_Widened_fi : Fi := ⟨30, spans_Widened_c, spans_Widened_r, spans_Widened_an, spans_Widened_hi, none⟩
theorem spans_Widened_ok : FiOk Tryd.prog f_spans_Widened spans_Widened_fi :=
  ⟨fun _ => by kernel_rfl, fun _ h hlen => fun_sound (by kernel_rfl) (fn := Tryd.f24) (draw_sound _ _) Tryd.func24 rfl (by kernel_rfl : comp Tryd.prog 30 _ spans_Widened_c = some spans_Widened_c) (by kernel_rfl : cRes Tryd.prog Tryd.f24.results.toList = some spans_Widened_r) hlen h, fun _ h => nomatch h⟩

/-- fustian/spans.Widen: slots [0 text, 1 s, 2 text, 3 s] -/
def spans_Widen_c : SCode :=
  (.seq (.ops [⟨(some 3), .box 0 (.t 1), none, false, []⟩,
    ⟨(some 4), .alloc 0 [(.int .i64 0), (.int .i64 0)], none, false, []⟩,
    ⟨(some 5), .mov (.c (.int .i64 0)), none, false, []⟩] none [0, 3, 4])
  (.seq (.block 0 (.seq (.ops [⟨(some 7), .mov (.t 0), none, false, []⟩,
    ⟨(some 8), .len true (.t 7), none, false, []⟩,
    ⟨(some 9), .bin .none .gtr (.t 8) (.c (.int .i64 600)), none, false, []⟩,
    ⟨(some 6), .mov (.t 9), none, false, []⟩] none [0, 3, 4, 6])
  (.cond (.t 6)
    (.seq (.ops [⟨(some 10), .build [(.int .i64 0), (.int .i64 0)] [], none, false, []⟩,
      ⟨none, .store 2 (.t 4) (.t 10), none, false, []⟩,
      ⟨(some 5), .mov (.c (.int .i64 1)), none, false, []⟩] none [4, 5])
    .ret)
    (.seq (.ops [⟨(some 12), .faddr 0 (.t 3), none, false, []⟩,
      ⟨(some 13), .load 1 false (.t 12), none, false, []⟩,
      ⟨(some 14), .bin .none .lss (.t 13) (.c (.int .i64 0)), none, false, []⟩,
      ⟨(some 15), .mov (.t 14), none, true, []⟩,
      ⟨(some 16), .faddr 0 (.t 3), (some (15, false)), false, []⟩,
      ⟨(some 17), .load 1 false (.t 16), (some (15, false)), false, []⟩,
      ⟨(some 18), .faddr 1 (.t 3), (some (15, false)), false, []⟩,
      ⟨(some 19), .load 1 false (.t 18), (some (15, false)), false, []⟩,
      ⟨(some 20), .bin .none .gtr (.t 17) (.t 19), (some (15, false)), false, []⟩,
      ⟨(some 21), .pick (.t 15) (.c (.bool true)) (.t 20), none, false, []⟩,
      ⟨(some 22), .mov (.t 21), none, true, []⟩,
      ⟨(some 23), .faddr 1 (.t 3), (some (22, false)), false, []⟩,
      ⟨(some 24), .load 1 false (.t 23), (some (22, false)), false, []⟩,
      ⟨(some 25), .mov (.t 0), (some (22, false)), false, []⟩,
      ⟨(some 26), .len true (.t 25), (some (22, false)), false, []⟩,
      ⟨(some 27), .bin .none .gtr (.t 24) (.t 26), (some (22, false)), false, []⟩,
      ⟨(some 28), .pick (.t 22) (.c (.bool true)) (.t 27), none, false, []⟩,
      ⟨(some 11), .mov (.t 28), none, false, []⟩] none [0, 3, 4, 11])
    (.cond (.t 11)
      (.seq (.ops [⟨(some 29), .build [(.int .i64 0), (.int .i64 0)] [], none, false, []⟩,
        ⟨none, .store 2 (.t 4) (.t 29), none, false, []⟩,
        ⟨(some 5), .mov (.c (.int .i64 2)), none, false, []⟩] none [4, 5])
      .ret)
      .skip)))))
  (.seq (.ops [⟨(some 30), .mov (.t 0), none, false, []⟩,
    ⟨(some 31), .load 2 true (.t 3), none, false, []⟩,
    ⟨(some 32), .call f_spans_Widened [(.t 30), (.t 31)], none, false, []⟩,
    ⟨none, .store 2 (.t 4) (.t 32), none, false, []⟩,
    ⟨(some 5), .mov (.c (.int .i64 0)), none, false, []⟩] none [4, 5])
  .ret)))
def spans_Widen_r : List RRes := [.cell 4 2 true, .tmp 5]
def spans_Widen_hi : Hi := ⟨[(3, (.st (.cons (.int .i64) (.cons (.int .i64) .nil)))), (4, (.st (.cons (.int .i64) (.cons (.int .i64) .nil))))], [(0, "text"), (1, "s"), (2, "text"), (3, "s")]⟩
def spans_Widen_an : An := .d
def spans_Widen_fi : Fi := ⟨33, spans_Widen_c, spans_Widen_r, spans_Widen_an, spans_Widen_hi, none⟩
theorem spans_Widen_ok : FiOk Tryd.prog f_spans_Widen spans_Widen_fi :=
  ⟨fun _ => by kernel_rfl, fun _ h hlen => fun_sound (by kernel_rfl) (fn := Tryd.f12) (draw_sound _ _) Tryd.func12 rfl (by kernel_rfl : comp Tryd.prog 33 _ spans_Widen_c = some spans_Widen_c) (by kernel_rfl : cRes Tryd.prog Tryd.f12.results.toList = some spans_Widen_r) hlen h, fun _ h => nomatch h⟩

/-- fustian/poly.Of: slots [0 text, 1 text, 3 h, 4 i] -/
def poly_Of_c : SCode :=
  (.seq (.ops [⟨(some 2), .alloc 0 [(.int .i64 0), (.int .i64 0)], none, false, []⟩] none [0, 2])
  (.seq (.ops [⟨(some 5), .build [(.int .i64 0), (.int .i64 0)] [(1, 1, (.c (.int .i64 1)))], none, false, []⟩,
    ⟨(some 3), .alloc 0 [(.int .i64 0), (.int .i64 0)], none, false, []⟩,
    ⟨none, .store 2 (.t 3) (.t 5), none, false, []⟩] none [0, 2, 3])
  (.seq (.seq (.ops [⟨(some 6), .mov (.t 0), none, false, []⟩,
    ⟨(some 7), .len true (.t 6), none, false, []⟩,
    ⟨(some 8), .mov (.c (.int .i64 0)), none, false, []⟩] none [0, 2, 3, 7, 8])
  (.block 0 (.loop [0, 2, 3, 7] [8] 2
    (.seq (.ops [⟨(some 9), .bin .none .lss (.t 8) (.t 7), none, false, []⟩] none [0, 2, 3, 7, 8, 9])
    (.seq (.cond (.t 9)
      .skip
      (.exit 0))
    (.seq (.block 1 (.seq (.ops [⟨(some 10), .mov (.t 8), none, false, []⟩,
      ⟨(some 4), .mov (.t 10), none, false, []⟩] none [0, 2, 3, 4, 7, 8])
    (.seq (.ops [⟨(some 11), .faddr 0 (.t 3), none, false, []⟩,
      ⟨(some 12), .load 1 false (.t 11), none, false, []⟩,
      ⟨(some 13), .bin .none .mul (.t 12) (.c (.int .i64 257)), none, false, []⟩,
      ⟨(some 14), .mov (.t 0), none, false, []⟩,
      ⟨(some 15), .mov (.t 4), none, false, []⟩,
      ⟨(some 16), .index 1 none false (.t 14) (.t 15), none, false, []⟩,
      ⟨(some 17), .conv .i64 (.t 16), none, false, []⟩,
      ⟨(some 18), .bin .none .add (.t 13) (.t 17), none, false, []⟩,
      ⟨(some 19), .bin .none .add (.t 18) (.c (.int .i64 1)), none, false, []⟩,
      ⟨(some 20), .bin .none .rem (.t 19) (.c (.int .i64 2147483647)), none, false, []⟩,
      ⟨(some 21), .faddr 0 (.t 3), none, false, []⟩,
      ⟨none, .store 1 (.t 21) (.t 20), none, false, []⟩] (some (0, 0, [0, 1, 2, 3, 4, 5, 6, 7, 8, 9, 10, 11])) [0, 2, 3, 7, 8])
    (.ops [⟨(some 22), .faddr 1 (.t 3), none, false, []⟩,
      ⟨(some 23), .load 1 false (.t 22), none, false, []⟩,
      ⟨(some 24), .bin .none .mul (.t 23) (.c (.int .i64 257)), none, false, []⟩,
      ⟨(some 25), .bin .none .rem (.t 24) (.c (.int .i64 2147483647)), none, false, []⟩,
      ⟨(some 26), .faddr 1 (.t 3), none, false, []⟩,
      ⟨none, .store 1 (.t 26) (.t 25), none, false, []⟩] none [0, 2, 3, 7, 8]))))
    (.ops [⟨(some 27), .bin .none .add (.t 8) (.c (.int .i64 1)), none, false, []⟩,
      ⟨(some 8), .mov (.t 27), none, false, []⟩] none [0, 2, 3, 7, 8])))))))
  (.seq (.ops [⟨(some 28), .load 2 true (.t 3), none, false, []⟩,
    ⟨none, .store 2 (.t 2) (.t 28), none, false, []⟩] none [2])
  .ret))))
def poly_Of_r : List RRes := [.cell 2 2 true]
def poly_Of_hi : Hi := ⟨[(2, (.st (.cons (.int .i64) (.cons (.int .i64) .nil)))), (3, (.st (.cons (.int .i64) (.cons (.int .i64) .nil))))], [(0, "text"), (1, "text"), (3, "h"), (4, "i")]⟩
def poly_Of_an : An := (.seq .d (.seq .d (.seq (.seq .d (.loop [3] [] [] .d)) .d)))
def poly_Of_fi : Fi := ⟨29, poly_Of_c, poly_Of_r, poly_Of_an, poly_Of_hi, none⟩
theorem poly_Of_ok : FiOk Tryd.prog f_poly_Of poly_Of_fi :=
  ⟨fun _ => by kernel_rfl, fun _ h hlen => fun_sound (by kernel_rfl) (fn := Tryd.f15) (draw_sound _ _) Tryd.func15 rfl (by kernel_rfl : comp Tryd.prog 29 _ poly_Of_c = some poly_Of_c) (by kernel_rfl : cRes Tryd.prog Tryd.f15.results.toList = some poly_Of_r) hlen h, fun _ h => nomatch h⟩

/-- fustian/poly.Lines: slots [0 text, 1 text, 4 out, 5 s] -/
def poly_Lines_c : RCode :=
  (.seqR (.ops [⟨(some 2), .mov (.c .nils), none, false, []⟩,
    ⟨(some 3), .mov (.c (.int .i64 0)), none, false, []⟩] none [0])
  (.seqR (.seq (.ops [⟨(some 6), .mov (.t 0), none, false, []⟩,
    ⟨(some 7), .len true (.t 6), none, false, []⟩,
    ⟨(some 8), .bin .none .gtr (.t 7) (.c (.int .i64 600)), none, false, []⟩] none [0, 8])
  (.cond (.t 8)
    (.seq (.ops [⟨(some 2), .mov (.c .nils), none, false, []⟩,
      ⟨(some 3), .mov (.c (.int .i64 1)), none, false, []⟩] none [2, 3])
    .ret)
    .skip))
  (.seqR (.ops [⟨(some 4), .alloc 0 [.nils], none, false, []⟩] none [0, 4])
  (.seqL (.seqR (.ops [⟨(some 9), .mov (.t 0), none, false, []⟩,
    ⟨(some 10), .call f_strings_SplitSeq [(.t 9), (.c (.str [10]))], none, false, []⟩] none [4, 10])
  (.block 0 (.rfun (.t 10) [11] (.ops [⟨(some 5), .mov (.t 11), none, false, []⟩] none [4, 5])
  (.block 1 (.ops [⟨(some 12), .load 1 false (.t 4), none, false, []⟩,
    ⟨(some 13), .mov (.t 5), none, false, []⟩,
    ⟨(some 14), .call f_poly_Of [(.t 13)], none, false, []⟩,
    ⟨(some 15), .field 0 1 false (.t 14), none, false, []⟩,
    ⟨(some 16), .bslice true 1 1 [(.int .i64 0)] [(0, 1, (.t 15))], none, false, []⟩,
    ⟨(some 17), .append 1 8 (.t 12) (.t 16), none, false, []⟩,
    ⟨none, .store 1 (.t 4) (.t 17), none, false, []⟩] (some (3, 0, [0, 1, 2, 3, 4, 5, 6])) [])))))
  (.seq (.ops [⟨(some 18), .load 1 false (.t 4), none, false, []⟩,
    ⟨(some 2), .mov (.t 18), none, false, []⟩,
    ⟨(some 3), .mov (.c (.int .i64 0)), none, false, []⟩] none [2, 3])
  .ret)))))
def poly_Lines_r : List RRes := [.tmp 2, .tmp 3]
theorem poly_Lines_ok : FlOk Tryd.prog f_poly_Lines 19 poly_Lines_c poly_Lines_r :=
  ⟨by kernel_rfl, fun hl h => fun_soundL (by kernel_rfl) (fn := Tryd.f5) (draw_sound _ _) Tryd.func5 rfl (by kernel_rfl : compL Tryd.prog 19 poly_Lines_c _ = some poly_Lines_c) (by kernel_rfl : cRes Tryd.prog Tryd.f5.results.toList = some poly_Lines_r) hl h⟩

/-- fustian/fustiantop.sameInts: slots [0 a, 1 b, 2 a, 3 b, 5 i] -/
def top_sameInts_c : SCode :=
  (.seq (.ops [⟨(some 4), .mov (.c (.bool false)), none, false, []⟩] none [0, 1])
  (.seq (.seq (.ops [⟨(some 6), .mov (.t 0), none, false, []⟩,
    ⟨(some 7), .len false (.t 6), none, false, []⟩,
    ⟨(some 8), .mov (.t 1), none, false, []⟩,
    ⟨(some 9), .len false (.t 8), none, false, []⟩,
    ⟨(some 10), .bin .none .neq (.t 7) (.t 9), none, false, []⟩] none [0, 1, 10])
  (.cond (.t 10)
    (.seq (.ops [⟨(some 4), .mov (.c (.bool false)), none, false, []⟩] none [4])
    .ret)
    .skip))
  (.seq (.seq (.ops [⟨(some 5), .mov (.c (.int .i64 0)), none, false, []⟩] none [0, 1, 5])
  (.block 0 (.loop [0, 1] [5] 0
    (.seq (.seq (.ops [⟨(some 11), .mov (.t 5), none, false, []⟩,
      ⟨(some 12), .mov (.t 0), none, false, []⟩,
      ⟨(some 13), .len false (.t 12), none, false, []⟩,
      ⟨(some 14), .bin .none .lss (.t 11) (.t 13), none, false, []⟩] none [0, 1, 5, 14])
    (.cond (.t 14)
      .skip
      (.exit 0)))
    (.seq (.block 1 (.seq (.ops [⟨(some 17), .mov (.t 0), none, false, []⟩,
      ⟨(some 18), .mov (.t 5), none, false, []⟩,
      ⟨(some 19), .iaddr 1 none (.t 17) (.t 18), none, false, []⟩,
      ⟨(some 20), .load 1 false (.t 19), none, false, []⟩,
      ⟨(some 21), .mov (.t 1), none, false, []⟩,
      ⟨(some 22), .mov (.t 5), none, false, []⟩,
      ⟨(some 23), .iaddr 1 none (.t 21) (.t 22), none, false, []⟩,
      ⟨(some 24), .load 1 false (.t 23), none, false, []⟩,
      ⟨(some 25), .bin .none .neq (.t 20) (.t 24), none, false, []⟩] (some (0, 0, [0, 1, 2, 3, 4, 5, 6, 7, 8])) [0, 1, 5, 25])
    (.cond (.t 25)
      (.seq (.ops [⟨(some 4), .mov (.c (.bool false)), none, false, []⟩] none [4])
      .ret)
      .skip)))
    (.ops [⟨(some 15), .mov (.t 5), none, false, []⟩,
      ⟨(some 16), .bin .none .add (.t 15) (.c (.int .i64 1)), none, false, []⟩,
      ⟨(some 5), .mov (.t 16), none, false, []⟩] none [0, 1, 5]))))))
  (.seq (.ops [⟨(some 4), .mov (.c (.bool true)), none, false, []⟩] none [4])
  .ret))))
def top_sameInts_r : List RRes := [.tmp 4]
def top_sameInts_hi : Hi := ⟨[], [(0, "a"), (1, "b"), (2, "a"), (3, "b"), (5, "i")]⟩
def top_sameInts_an : An := (.seq .d (.seq .d (.seq (.seq .d (.loop [] [] [] .d)) .d)))
def top_sameInts_fi : Fi := ⟨26, top_sameInts_c, top_sameInts_r, top_sameInts_an, top_sameInts_hi, none⟩
theorem top_sameInts_ok : FiOk Tryd.prog f_top_sameInts top_sameInts_fi :=
  ⟨fun _ => by kernel_rfl, fun _ h hlen => fun_sound (by kernel_rfl) (fn := Tryd.f13) (draw_sound _ _) Tryd.func13 rfl (by kernel_rfl : comp Tryd.prog 26 _ top_sameInts_c = some top_sameInts_c) (by kernel_rfl : cRes Tryd.prog Tryd.f13.results.toList = some top_sameInts_r) hlen h, fun _ h => nomatch h⟩

/-- fustian/fustiantop.TopDirty: slots [0 text, 1 c, 2 text, 3 c, 5 s, 6 e, 7 t, 8 f, 9 set, 10 g, 11 x, 12 w, 13 h, 14 old, 15 i, 16 p, 17 j, 18 q, 19 k, 20 u, 21 m, 22 v, 23 n] -/
def top_TopDirty_c : SCode :=
  (.seq (.ops [⟨(some 3), .box 0 (.t 1), none, false, []⟩,
    ⟨(some 4), .mov (.c (.bool false)), none, false, []⟩] none [0, 3])
  (.seq (.ops [⟨(some 24), .mov (.t 0), none, false, []⟩,
    ⟨(some 25), .call f_keep_TextOf [(.t 24), (.c (.int .i64 100))], none, false, []⟩,
    ⟨(some 5), .mov (.t 25), none, false, []⟩] none [3, 5])
  (.seq (.ops [⟨(some 26), .load 3 true (.t 3), none, false, []⟩,
    ⟨(some 27), .mov (.t 5), none, false, []⟩,
    ⟨(some 28), .len true (.t 27), none, false, []⟩,
    ⟨(some 29), .call f_keep_EditOf [(.t 26), (.t 28)], none, false, []⟩,
    ⟨(some 6), .alloc 0 [(.int .i64 0), (.int .i64 0), (.str [])], none, false, []⟩,
    ⟨none, .store 3 (.t 6) (.t 29), none, false, []⟩] none [5, 6])
  (.seq (.ops [⟨(some 31), .mov (.t 5), none, false, []⟩,
    ⟨(some 32), .load 3 true (.t 6), none, false, []⟩,
    ⟨(some 33), .bslice true 1 3 [(.int .i64 0), (.int .i64 0), (.str [])] [(0, 3, (.t 32))], none, false, []⟩,
    ⟨(some 34), .call f_edit_Apply [(.t 31), (.t 33)], none, false, []⟩,
    ⟨(some 30), .mov (.t 34), none, false, []⟩,
    ⟨(some 35), .extract (.t 30) 0, none, false, []⟩,
    ⟨(some 36), .extract (.t 30) 1, none, false, []⟩,
    ⟨(some 7), .mov (.t 35), none, false, []⟩,
    ⟨(some 8), .mov (.t 36), none, false, []⟩] none [5, 6, 7, 8])
  (.seq (.ops [⟨(some 38), .mov (.t 5), none, false, []⟩,
    ⟨(some 39), .len true (.t 38), none, false, []⟩,
    ⟨(some 40), .load 3 true (.t 6), none, false, []⟩,
    ⟨(some 41), .call f_spans_Shift [(.t 39), (.c .nils), (.t 40)], none, false, []⟩,
    ⟨(some 37), .mov (.t 41), none, false, []⟩,
    ⟨(some 42), .extract (.t 37) 0, none, false, []⟩,
    ⟨(some 43), .extract (.t 37) 1, none, false, []⟩,
    ⟨(some 9), .mov (.t 42), none, false, []⟩,
    ⟨(some 10), .mov (.t 43), none, false, []⟩] none [5, 6, 7, 8, 9, 10])
  (.seq (.seq (.ops [⟨(some 44), .mov (.t 8), none, false, []⟩,
    ⟨(some 45), .bin .none .neq (.t 44) (.c (.int .i64 0)), none, false, []⟩,
    ⟨(some 46), .mov (.t 45), none, true, []⟩,
    ⟨(some 47), .mov (.t 10), (some (46, false)), false, []⟩,
    ⟨(some 48), .bin .none .neq (.t 47) (.c (.int .i64 0)), (some (46, false)), false, []⟩,
    ⟨(some 49), .pick (.t 46) (.c (.bool true)) (.t 48), none, false, []⟩,
    ⟨(some 50), .mov (.t 49), none, true, []⟩,
    ⟨(some 51), .mov (.t 9), (some (50, false)), false, []⟩,
    ⟨(some 52), .len false (.t 51), (some (50, false)), false, []⟩,
    ⟨(some 53), .bin .none .gtr (.t 52) (.c (.int .i64 0)), (some (50, false)), false, []⟩,
    ⟨(some 54), .faddr 2 (.t 6), (some (50, false)), false, []⟩,
    ⟨(some 55), .load 1 false (.t 54), (some (50, false)), false, []⟩,
    ⟨(some 56), .bin .none .neq (.t 55) (.c (.str [])), (some (50, false)), false, []⟩,
    ⟨(some 57), .bin .bool .neq (.t 53) (.t 56), (some (50, false)), false, []⟩,
    ⟨(some 58), .pick (.t 50) (.c (.bool true)) (.t 57), none, false, []⟩] none [5, 6, 7, 58])
  (.cond (.t 58)
    (.seq (.ops [⟨(some 4), .mov (.c (.bool false)), none, false, []⟩] none [4])
    .ret)
    .skip))
  (.seq (.ops [⟨(some 59), .faddr 0 (.t 6), none, false, []⟩,
    ⟨(some 60), .load 1 false (.t 59), none, false, []⟩,
    ⟨(some 61), .faddr 0 (.t 6), none, false, []⟩,
    ⟨(some 62), .load 1 false (.t 61), none, false, []⟩,
    ⟨(some 63), .faddr 2 (.t 6), none, false, []⟩,
    ⟨(some 64), .load 1 false (.t 63), none, false, []⟩,
    ⟨(some 65), .len true (.t 64), none, false, []⟩,
    ⟨(some 66), .bin .none .add (.t 62) (.t 65), none, false, []⟩,
    ⟨(some 67), .build [(.int .i64 0), (.int .i64 0)] [(0, 1, (.t 60)), (1, 1, (.t 66))], none, false, []⟩,
    ⟨(some 11), .alloc 0 [(.int .i64 0), (.int .i64 0)], none, false, []⟩,
    ⟨none, .store 2 (.t 11) (.t 67), none, false, []⟩] none [5, 6, 7, 11])
  (.seq (.ops [⟨(some 69), .mov (.t 7), none, false, []⟩,
    ⟨(some 70), .load 2 true (.t 11), none, false, []⟩,
    ⟨(some 71), .call f_spans_Widen [(.t 69), (.t 70)], none, false, []⟩,
    ⟨(some 68), .mov (.t 71), none, false, []⟩,
    ⟨(some 72), .extract (.t 68) 0, none, false, []⟩,
    ⟨(some 73), .extract (.t 68) 1, none, false, []⟩,
    ⟨(some 12), .alloc 0 [(.int .i64 0), (.int .i64 0)], none, false, []⟩,
    ⟨none, .store 2 (.t 12) (.t 72), none, false, []⟩,
    ⟨(some 13), .mov (.t 73), none, false, []⟩] none [5, 6, 7, 12, 13])
  (.seq (.ops [⟨(some 75), .mov (.t 5), none, false, []⟩,
    ⟨(some 76), .faddr 0 (.t 6), none, false, []⟩,
    ⟨(some 77), .load 1 false (.t 76), none, false, []⟩,
    ⟨(some 78), .faddr 0 (.t 6), none, false, []⟩,
    ⟨(some 79), .load 1 false (.t 78), none, false, []⟩,
    ⟨(some 80), .faddr 1 (.t 6), none, false, []⟩,
    ⟨(some 81), .load 1 false (.t 80), none, false, []⟩,
    ⟨(some 82), .bin .none .add (.t 79) (.t 81), none, false, []⟩,
    ⟨(some 83), .build [(.int .i64 0), (.int .i64 0)] [(0, 1, (.t 77)), (1, 1, (.t 82))], none, false, []⟩,
    ⟨(some 84), .call f_spans_Widen [(.t 75), (.t 83)], none, false, []⟩,
    ⟨(some 74), .mov (.t 84), none, false, []⟩,
    ⟨(some 85), .extract (.t 74) 0, none, false, []⟩,
    ⟨(some 86), .extract (.t 74) 1, none, false, []⟩,
    ⟨(some 14), .alloc 0 [(.int .i64 0), (.int .i64 0)], none, false, []⟩,
    ⟨none, .store 2 (.t 14) (.t 85), none, false, []⟩,
    ⟨(some 15), .mov (.t 86), none, false, []⟩] none [5, 7, 12, 13, 14, 15])
  (.seq (.seq (.ops [⟨(some 87), .mov (.t 13), none, false, []⟩,
    ⟨(some 88), .bin .none .neq (.t 87) (.c (.int .i64 0)), none, false, []⟩,
    ⟨(some 89), .mov (.t 88), none, true, []⟩,
    ⟨(some 90), .mov (.t 15), (some (89, false)), false, []⟩,
    ⟨(some 91), .bin .none .neq (.t 90) (.c (.int .i64 0)), (some (89, false)), false, []⟩,
    ⟨(some 92), .pick (.t 89) (.c (.bool true)) (.t 91), none, false, []⟩] none [5, 7, 12, 14, 92])
  (.cond (.t 92)
    (.seq (.ops [⟨(some 4), .mov (.c (.bool false)), none, false, []⟩] none [4])
    .ret)
    .skip))
  (.seq (.ops [⟨(some 94), .mov (.t 5), none, false, []⟩,
    ⟨(some 95), .faddr 0 (.t 14), none, false, []⟩,
    ⟨(some 96), .load 1 false (.t 95), none, false, []⟩,
    ⟨(some 97), .slice 0 (.t 94) none (some (.t 96)), none, false, []⟩,
    ⟨(some 98), .call f_poly_Lines [(.t 97)], none, false, []⟩,
    ⟨(some 93), .mov (.t 98), none, false, []⟩,
    ⟨(some 99), .extract (.t 93) 0, none, false, []⟩,
    ⟨(some 100), .extract (.t 93) 1, none, false, []⟩,
    ⟨(some 16), .mov (.t 99), none, false, []⟩,
    ⟨(some 17), .mov (.t 100), none, false, []⟩] none [5, 7, 12, 14, 16, 17])
  (.seq (.ops [⟨(some 102), .mov (.t 7), none, false, []⟩,
    ⟨(some 103), .faddr 0 (.t 12), none, false, []⟩,
    ⟨(some 104), .load 1 false (.t 103), none, false, []⟩,
    ⟨(some 105), .slice 0 (.t 102) none (some (.t 104)), none, false, []⟩,
    ⟨(some 106), .call f_poly_Lines [(.t 105)], none, false, []⟩,
    ⟨(some 101), .mov (.t 106), none, false, []⟩,
    ⟨(some 107), .extract (.t 101) 0, none, false, []⟩,
    ⟨(some 108), .extract (.t 101) 1, none, false, []⟩,
    ⟨(some 18), .mov (.t 107), none, false, []⟩,
    ⟨(some 19), .mov (.t 108), none, false, []⟩] none [5, 7, 12, 14, 16, 17, 18, 19])
  (.seq (.ops [⟨(some 110), .mov (.t 5), none, false, []⟩,
    ⟨(some 111), .faddr 1 (.t 14), none, false, []⟩,
    ⟨(some 112), .load 1 false (.t 111), none, false, []⟩,
    ⟨(some 113), .slice 0 (.t 110) (some (.t 112)) none, none, false, []⟩,
    ⟨(some 114), .call f_poly_Lines [(.t 113)], none, false, []⟩,
    ⟨(some 109), .mov (.t 114), none, false, []⟩,
    ⟨(some 115), .extract (.t 109) 0, none, false, []⟩,
    ⟨(some 116), .extract (.t 109) 1, none, false, []⟩,
    ⟨(some 20), .mov (.t 115), none, false, []⟩,
    ⟨(some 21), .mov (.t 116), none, false, []⟩] none [7, 12, 16, 17, 18, 19, 20, 21])
  (.seq (.ops [⟨(some 118), .mov (.t 7), none, false, []⟩,
    ⟨(some 119), .faddr 1 (.t 12), none, false, []⟩,
    ⟨(some 120), .load 1 false (.t 119), none, false, []⟩,
    ⟨(some 121), .slice 0 (.t 118) (some (.t 120)) none, none, false, []⟩,
    ⟨(some 122), .call f_poly_Lines [(.t 121)], none, false, []⟩,
    ⟨(some 117), .mov (.t 122), none, false, []⟩,
    ⟨(some 123), .extract (.t 117) 0, none, false, []⟩,
    ⟨(some 124), .extract (.t 117) 1, none, false, []⟩,
    ⟨(some 22), .mov (.t 123), none, false, []⟩,
    ⟨(some 23), .mov (.t 124), none, false, []⟩] none [16, 17, 18, 19, 20, 21, 22, 23])
  (.seq (.ops [⟨(some 125), .mov (.t 17), none, false, []⟩,
    ⟨(some 126), .bin .none .eql (.t 125) (.c (.int .i64 0)), none, false, []⟩,
    ⟨(some 127), .mov (.t 126), none, true, []⟩,
    ⟨(some 128), .mov (.t 19), (some (127, true)), false, []⟩,
    ⟨(some 129), .bin .none .eql (.t 128) (.c (.int .i64 0)), (some (127, true)), false, []⟩,
    ⟨(some 130), .pick (.t 127) (.t 129) (.c (.bool false)), none, false, []⟩,
    ⟨(some 131), .mov (.t 130), none, true, []⟩,
    ⟨(some 132), .mov (.t 21), (some (131, true)), false, []⟩,
    ⟨(some 133), .bin .none .eql (.t 132) (.c (.int .i64 0)), (some (131, true)), false, []⟩,
    ⟨(some 134), .pick (.t 131) (.t 133) (.c (.bool false)), none, false, []⟩,
    ⟨(some 135), .mov (.t 134), none, true, []⟩,
    ⟨(some 136), .mov (.t 23), (some (135, true)), false, []⟩,
    ⟨(some 137), .bin .none .eql (.t 136) (.c (.int .i64 0)), (some (135, true)), false, []⟩,
    ⟨(some 138), .pick (.t 135) (.t 137) (.c (.bool false)), none, false, []⟩,
    ⟨(some 139), .mov (.t 138), none, true, []⟩,
    ⟨(some 140), .mov (.t 16), (some (139, true)), false, []⟩,
    ⟨(some 141), .len false (.t 140), (some (139, true)), false, []⟩,
    ⟨(some 142), .bin .none .gtr (.t 141) (.c (.int .i64 0)), (some (139, true)), false, []⟩,
    ⟨(some 143), .pick (.t 139) (.t 142) (.c (.bool false)), none, false, []⟩,
    ⟨(some 144), .mov (.t 143), none, true, []⟩,
    ⟨(some 145), .mov (.t 20), (some (144, true)), false, []⟩,
    ⟨(some 146), .len false (.t 145), (some (144, true)), false, []⟩,
    ⟨(some 147), .bin .none .gtr (.t 146) (.c (.int .i64 0)), (some (144, true)), false, []⟩,
    ⟨(some 148), .pick (.t 144) (.t 147) (.c (.bool false)), none, false, []⟩,
    ⟨(some 149), .mov (.t 148), none, true, []⟩,
    ⟨(some 150), .mov (.t 16), (some (149, true)), false, []⟩,
    ⟨(some 151), .mov (.t 18), (some (149, true)), false, []⟩,
    ⟨(some 152), .call f_top_sameInts [(.t 150), (.t 151)], (some (149, true)), false, []⟩,
    ⟨(some 153), .pick (.t 149) (.t 152) (.c (.bool false)), none, false, []⟩,
    ⟨(some 154), .mov (.t 153), none, true, []⟩,
    ⟨(some 155), .mov (.t 20), (some (154, true)), false, []⟩,
    ⟨(some 156), .mov (.t 22), (some (154, true)), false, []⟩,
    ⟨(some 157), .call f_top_sameInts [(.t 155), (.t 156)], (some (154, true)), false, []⟩,
    ⟨(some 158), .pick (.t 154) (.t 157) (.c (.bool false)), none, false, []⟩,
    ⟨(some 4), .mov (.t 158), none, false, []⟩] none [4])
  .ret)))))))))))))))
def top_TopDirty_r : List RRes := [.tmp 4]
def top_TopDirty_hi : Hi := ⟨[(33, (.st (.cons (.int .i64) (.cons (.int .i64) (.cons .str .nil))))), (3, (.st (.cons (.int .i64) (.cons (.int .i64) (.cons (.sl (.int .i64)) .nil))))), (6, (.st (.cons (.int .i64) (.cons (.int .i64) (.cons .str .nil))))), (11, (.st (.cons (.int .i64) (.cons (.int .i64) .nil)))), (12, (.st (.cons (.int .i64) (.cons (.int .i64) .nil)))), (14, (.st (.cons (.int .i64) (.cons (.int .i64) .nil))))], [(0, "text"), (1, "c"), (2, "text"), (3, "c"), (5, "s"), (6, "e"), (7, "t"), (8, "f"), (9, "set"), (10, "g"), (11, "x"), (12, "w"), (13, "h"), (14, "old"), (15, "i"), (16, "p"), (17, "j"), (18, "q"), (19, "k"), (20, "u"), (21, "m"), (22, "v"), (23, "n")]⟩
def top_TopDirty_an : An := .d
def top_TopDirty_fi : Fi := ⟨159, top_TopDirty_c, top_TopDirty_r, top_TopDirty_an, top_TopDirty_hi, none⟩
theorem top_TopDirty_ok : FiOk Tryd.prog f_top_TopDirty top_TopDirty_fi :=
  ⟨fun _ => by kernel_rfl, fun _ h hlen => fun_sound (by kernel_rfl) (fn := Tryd.f4) (draw_sound _ _) Tryd.func4 rfl (by kernel_rfl : comp Tryd.prog 159 _ top_TopDirty_c = some top_TopDirty_c) (by kernel_rfl : cRes Tryd.prog Tryd.f4.results.toList = some top_TopDirty_r) hlen h, fun _ h => nomatch h⟩

/-- slices.DeleteFunc[[]fustian/api.Span,fustian/api.Span]: slots [0 s, 1 del, 2 s, 3 del, 5 i, 6 j, 7 v] -/
def slices_DeleteFunc___api_Span_api_Span__c : SCode :=
  (.seq (.ops [⟨(some 4), .mov (.c .nils), none, false, []⟩] none [0, 1])
  (.seq (.ops [⟨(some 8), .mov (.t 0), none, false, []⟩,
    ⟨(some 9), .mov (.t 1), none, false, []⟩,
    ⟨(some 10), .call f_slices_IndexFunc___api_Span_api_Span_ [(.t 8), (.t 9)], none, false, []⟩,
    ⟨(some 5), .mov (.t 10), none, false, []⟩] none [0, 1, 5])
  (.seq (.seq (.ops [⟨(some 11), .mov (.t 5), none, false, []⟩,
    ⟨(some 12), .bin .none .eql (.t 11) (.c (.int .i64 (-1))), none, false, []⟩] none [0, 1, 5, 12])
  (.cond (.t 12)
    (.seq (.ops [⟨(some 13), .mov (.t 0), none, false, []⟩,
      ⟨(some 4), .mov (.t 13), none, false, []⟩] none [4])
    .ret)
    .skip))
  (.seq (.seq (.ops [⟨(some 14), .mov (.t 5), none, false, []⟩,
    ⟨(some 15), .bin .none .add (.t 14) (.c (.int .i64 1)), none, false, []⟩,
    ⟨(some 6), .mov (.t 15), none, false, []⟩] none [0, 1, 5, 6])
  (.block 0 (.loop [0, 1] [5, 6] 0
    (.seq (.seq (.ops [⟨(some 16), .mov (.t 6), none, false, []⟩,
      ⟨(some 17), .mov (.t 0), none, false, []⟩,
      ⟨(some 18), .len false (.t 17), none, false, []⟩,
      ⟨(some 19), .bin .none .lss (.t 16) (.t 18), none, false, []⟩] none [0, 1, 5, 6, 19])
    (.cond (.t 19)
      .skip
      (.exit 0)))
    (.join [0, 1, 6] [5] 1 (.block 1 (.seq (.ops [⟨(some 22), .mov (.t 0), none, false, []⟩,
        ⟨(some 23), .mov (.t 6), none, false, []⟩,
        ⟨(some 24), .iaddr 2 none (.t 22) (.t 23), none, false, []⟩,
        ⟨(some 25), .load 2 true (.t 24), none, false, []⟩,
        ⟨(some 7), .alloc 0 [(.int .i64 0), (.int .i64 0)], none, false, []⟩,
        ⟨none, .store 2 (.t 7) (.t 25), none, false, []⟩] none [0, 1, 5, 6, 7])
      (.seq (.ops [⟨(some 26), .mov (.t 1), none, false, []⟩,
        ⟨(some 27), .load 2 true (.t 7), none, false, []⟩,
        ⟨(some 28), .callv (.t 26) [(.t 27)], none, false, []⟩,
        ⟨(some 29), .not (.t 28), none, false, []⟩] none [0, 1, 5, 6, 7, 29])
      (.cond (.t 29)
        (.seq (.ops [⟨(some 30), .mov (.t 0), none, false, []⟩,
          ⟨(some 31), .mov (.t 5), none, false, []⟩,
          ⟨(some 32), .load 2 true (.t 7), none, false, []⟩,
          ⟨(some 33), .iaddr 2 none (.t 30) (.t 31), none, false, []⟩,
          ⟨none, .store 2 (.t 33) (.t 32), none, false, []⟩] none [0, 1, 5, 6])
        (.ops [⟨(some 34), .mov (.t 5), none, false, []⟩,
          ⟨(some 35), .bin .none .add (.t 34) (.c (.int .i64 1)), none, false, []⟩,
          ⟨(some 5), .mov (.t 35), none, false, []⟩] none [0, 1, 5, 6]))
        .skip))))
    (.ops [⟨(some 20), .mov (.t 6), none, false, []⟩,
      ⟨(some 21), .bin .none .add (.t 20) (.c (.int .i64 1)), none, false, []⟩,
      ⟨(some 6), .mov (.t 21), none, false, []⟩] none [0, 1, 5, 6]))))))
  (.seq (.ops [⟨(some 36), .mov (.t 0), none, false, []⟩,
    ⟨(some 37), .mov (.t 5), none, false, []⟩,
    ⟨(some 38), .slice 2 (.t 36) (some (.t 37)) none, none, false, []⟩,
    ⟨none, .clear 2 [(.int .i64 0), (.int .i64 0)] (.t 38), none, false, []⟩] none [0, 5])
  (.seq (.ops [⟨(some 39), .mov (.t 0), none, false, []⟩,
    ⟨(some 40), .mov (.t 5), none, false, []⟩,
    ⟨(some 41), .slice 2 (.t 39) none (some (.t 40)), none, false, []⟩,
    ⟨(some 4), .mov (.t 41), none, false, []⟩] none [4])
  .ret))))))
def slices_DeleteFunc___api_Span_api_Span__r : List RRes := [.tmp 4]
def slices_DeleteFunc___api_Span_api_Span__hi : Hi := ⟨[(7, (.st (.cons (.int .i64) (.cons (.int .i64) .nil))))], [(0, "s"), (1, "del"), (2, "s"), (3, "del"), (5, "i"), (6, "j"), (7, "v")]⟩
def slices_DeleteFunc___api_Span_api_Span__an : An := (.seq .d (.seq .d (.seq .d (.seq (.seq .d (.loop [1, 0] [] [] .d)) .d))))
def slices_DeleteFunc___api_Span_api_Span__fi : Fi := ⟨42, slices_DeleteFunc___api_Span_api_Span__c, slices_DeleteFunc___api_Span_api_Span__r, slices_DeleteFunc___api_Span_api_Span__an, slices_DeleteFunc___api_Span_api_Span__hi, none⟩
theorem slices_DeleteFunc___api_Span_api_Span__ok : FiOk Tryd.prog f_slices_DeleteFunc___api_Span_api_Span_ slices_DeleteFunc___api_Span_api_Span__fi :=
  ⟨fun _ => by kernel_rfl, fun _ h hlen => fun_sound (by kernel_rfl) (fn := Tryd.f37) (draw_sound _ _) Tryd.func37 rfl (by kernel_rfl : comp Tryd.prog 42 _ slices_DeleteFunc___api_Span_api_Span__c = some slices_DeleteFunc___api_Span_api_Span__c) (by kernel_rfl : cRes Tryd.prog Tryd.f37.results.toList = some slices_DeleteFunc___api_Span_api_Span__r) hlen h, fun _ h => nomatch h⟩

/-- slices.IndexFunc[[]fustian/api.Span,fustian/api.Span]: slots [0 s, 1 f, 2 s, 3 f, 5 i] -/
def slices_IndexFunc___api_Span_api_Span__c : SCode :=
  (.seq (.ops [⟨(some 4), .mov (.c (.int .i64 0)), none, false, []⟩] none [0, 1])
  (.seq (.seq (.ops [⟨(some 6), .mov (.t 0), none, false, []⟩,
    ⟨(some 7), .len false (.t 6), none, false, []⟩,
    ⟨(some 8), .mov (.c (.int .i64 0)), none, false, []⟩] none [0, 1, 7, 8])
  (.block 0 (.loop [0, 1, 7] [8] 0
    (.seq (.ops [⟨(some 9), .bin .none .lss (.t 8) (.t 7), none, false, []⟩] none [0, 1, 7, 8, 9])
    (.seq (.cond (.t 9)
      .skip
      (.exit 0))
    (.seq (.block 1 (.seq (.ops [⟨(some 10), .mov (.t 8), none, false, []⟩,
      ⟨(some 5), .mov (.t 10), none, false, []⟩] none [0, 1, 5, 7, 8])
    (.seq (.ops [⟨(some 11), .mov (.t 1), none, false, []⟩,
      ⟨(some 12), .mov (.t 0), none, false, []⟩,
      ⟨(some 13), .mov (.t 5), none, false, []⟩,
      ⟨(some 14), .iaddr 2 none (.t 12) (.t 13), none, false, []⟩,
      ⟨(some 15), .load 2 true (.t 14), none, false, []⟩,
      ⟨(some 16), .callv (.t 11) [(.t 15)], none, false, []⟩] none [0, 1, 5, 7, 8, 16])
    (.cond (.t 16)
      (.seq (.ops [⟨(some 17), .mov (.t 5), none, false, []⟩,
        ⟨(some 4), .mov (.t 17), none, false, []⟩] none [4])
      .ret)
      .skip))))
    (.ops [⟨(some 18), .bin .none .add (.t 8) (.c (.int .i64 1)), none, false, []⟩,
      ⟨(some 8), .mov (.t 18), none, false, []⟩] none [0, 1, 7, 8])))))))
  (.seq (.ops [⟨(some 4), .mov (.c (.int .i64 (-1))), none, false, []⟩] none [4])
  .ret)))
def slices_IndexFunc___api_Span_api_Span__r : List RRes := [.tmp 4]
def slices_IndexFunc___api_Span_api_Span__hi : Hi := ⟨[], [(0, "s"), (1, "f"), (2, "s"), (3, "f"), (5, "i")]⟩
def slices_IndexFunc___api_Span_api_Span__an : An := (.seq .d (.seq (.seq .d (.loop [1] [] [] .d)) .d))
def slices_IndexFunc___api_Span_api_Span__fi : Fi := ⟨19, slices_IndexFunc___api_Span_api_Span__c, slices_IndexFunc___api_Span_api_Span__r, slices_IndexFunc___api_Span_api_Span__an, slices_IndexFunc___api_Span_api_Span__hi, none⟩
theorem slices_IndexFunc___api_Span_api_Span__ok : FiOk Tryd.prog f_slices_IndexFunc___api_Span_api_Span_ slices_IndexFunc___api_Span_api_Span__fi :=
  ⟨fun _ => by kernel_rfl, fun _ h hlen => fun_sound (by kernel_rfl) (fn := Tryd.f46) (draw_sound _ _) Tryd.func46 rfl (by kernel_rfl : comp Tryd.prog 19 _ slices_IndexFunc___api_Span_api_Span__c = some slices_IndexFunc___api_Span_api_Span__c) (by kernel_rfl : cRes Tryd.prog Tryd.f46.results.toList = some slices_IndexFunc___api_Span_api_Span__r) hlen h, fun _ h => nomatch h⟩

/-- fustian/spans.Without$1: slots [0 x, 1 x] -/
def spans_Without_1_c : SCode :=
  (.seq (.ops [⟨(some 1), .box 0 (.t 0), none, false, []⟩,
    ⟨(some 2), .mov (.c (.bool false)), none, false, []⟩] none [1])
  (.seq (.ops [⟨(some 3), .faddr 0 (.t 1), none, false, []⟩,
    ⟨(some 4), .load 1 false (.t 3), none, false, []⟩,
    ⟨(some 5), .faddr 1 (.t 1), none, false, []⟩,
    ⟨(some 6), .load 1 false (.t 5), none, false, []⟩,
    ⟨(some 7), .bin .none .geq (.t 4) (.t 6), none, false, []⟩,
    ⟨(some 2), .mov (.t 7), none, false, []⟩] none [2])
  .ret))
def spans_Without_1_r : List RRes := [.tmp 2]
def spans_Without_1_hi : Hi := ⟨[(1, (.st (.cons (.int .i64) (.cons (.int .i64) .nil))))], [(0, "x"), (1, "x")]⟩
def spans_Without_1_an : An := .d
def spans_Without_1_fi : Fi := ⟨8, spans_Without_1_c, spans_Without_1_r, spans_Without_1_an, spans_Without_1_hi, none⟩
theorem spans_Without_1_ok : FiOk Tryd.prog f_spans_Without_1 spans_Without_1_fi :=
  ⟨fun _ => by kernel_rfl, fun _ h hlen => fun_sound (by kernel_rfl) (fn := Tryd.f38) (draw_sound _ _) Tryd.func38 rfl (by kernel_rfl : comp Tryd.prog 8 _ spans_Without_1_c = some spans_Without_1_c) (by kernel_rfl : cRes Tryd.prog Tryd.f38.results.toList = some spans_Without_1_r) hlen h, fun _ h => nomatch h⟩

/-- fustian/spans.full: slots [0 l, 1 l] -/
def spans_full_c : SCode :=
  (.seq (.ops [⟨(some 2), .mov (.c .nils), none, false, []⟩,
    ⟨(some 3), .mov (.c (.int .i64 0)), none, false, []⟩] none [0])
  (.seq (.seq (.ops [⟨(some 4), .mov (.t 0), none, false, []⟩,
    ⟨(some 5), .len false (.t 4), none, false, []⟩,
    ⟨(some 6), .bin .none .gtr (.t 5) (.c (.int .i64 40)), none, false, []⟩] none [0, 6])
  (.cond (.t 6)
    (.seq (.ops [⟨(some 2), .mov (.c .nils), none, false, []⟩,
      ⟨(some 3), .mov (.c (.int .i64 8)), none, false, []⟩] none [2, 3])
    .ret)
    .skip))
  (.seq (.ops [⟨(some 7), .mov (.t 0), none, false, []⟩,
    ⟨(some 2), .mov (.t 7), none, false, []⟩,
    ⟨(some 3), .mov (.c (.int .i64 0)), none, false, []⟩] none [2, 3])
  .ret)))
def spans_full_r : List RRes := [.tmp 2, .tmp 3]
def spans_full_hi : Hi := ⟨[], [(0, "l"), (1, "l")]⟩
def spans_full_an : An := .d
def spans_full_fi : Fi := ⟨8, spans_full_c, spans_full_r, spans_full_an, spans_full_hi, none⟩
theorem spans_full_ok : FiOk Tryd.prog f_spans_full spans_full_fi :=
  ⟨fun _ => by kernel_rfl, fun _ h hlen => fun_sound (by kernel_rfl) (fn := Tryd.f22) (draw_sound _ _) Tryd.func22 rfl (by kernel_rfl : comp Tryd.prog 8 _ spans_full_c = some spans_full_c) (by kernel_rfl : cRes Tryd.prog Tryd.f22.results.toList = some spans_full_r) hlen h, fun _ h => nomatch h⟩

/-- strings.LastIndexByte: slots [0 s, 1 c, 2 s, 3 c] -/
def strings_LastIndexByte_c : SCode :=
  (.seq (.ops [⟨(some 4), .mov (.c (.int .i64 0)), none, false, []⟩] none [0, 1])
  (.seq (.ops [⟨(some 5), .mov (.t 0), none, false, []⟩,
    ⟨(some 6), .mov (.t 1), none, false, []⟩,
    ⟨(some 7), .call f_internal_bytealg_LastIndexByteString [(.t 5), (.t 6)], none, false, []⟩,
    ⟨(some 4), .mov (.t 7), none, false, []⟩] none [4])
  .ret))
def strings_LastIndexByte_r : List RRes := [.tmp 4]
def strings_LastIndexByte_hi : Hi := ⟨[], [(0, "s"), (1, "c"), (2, "s"), (3, "c")]⟩
def strings_LastIndexByte_an : An := .d
def strings_LastIndexByte_fi : Fi := ⟨8, strings_LastIndexByte_c, strings_LastIndexByte_r, strings_LastIndexByte_an, strings_LastIndexByte_hi, none⟩
theorem strings_LastIndexByte_ok : FiOk Tryd.prog f_strings_LastIndexByte strings_LastIndexByte_fi :=
  ⟨fun _ => by kernel_rfl, fun _ h hlen => fun_sound (by kernel_rfl) (fn := Tryd.f31) (draw_sound _ _) Tryd.func31 rfl (by kernel_rfl : comp Tryd.prog 8 _ strings_LastIndexByte_c = some strings_LastIndexByte_c) (by kernel_rfl : cRes Tryd.prog Tryd.f31.results.toList = some strings_LastIndexByte_r) hlen h, fun _ h => nomatch h⟩

/-- internal/bytealg.LastIndexByteString: slots [0 s, 1 c, 2 s, 3 c, 5 i] -/
def internal_bytealg_LastIndexByteString_c : SCode :=
  (.seq (.ops [⟨(some 4), .mov (.c (.int .i64 0)), none, false, []⟩] none [0, 1])
  (.seq (.seq (.ops [⟨(some 6), .mov (.t 0), none, false, []⟩,
    ⟨(some 7), .len true (.t 6), none, false, []⟩,
    ⟨(some 8), .bin .none .sub (.t 7) (.c (.int .i64 1)), none, false, []⟩,
    ⟨(some 5), .mov (.t 8), none, false, []⟩] none [0, 1, 5])
  (.block 0 (.loop [0, 1] [5] 0
    (.seq (.seq (.ops [⟨(some 9), .mov (.t 5), none, false, []⟩,
      ⟨(some 10), .bin .none .geq (.t 9) (.c (.int .i64 0)), none, false, []⟩] none [0, 1, 5, 10])
    (.cond (.t 10)
      .skip
      (.exit 0)))
    (.seq (.block 1 (.seq (.ops [⟨(some 13), .mov (.t 0), none, false, []⟩,
      ⟨(some 14), .mov (.t 5), none, false, []⟩,
      ⟨(some 15), .index 1 none false (.t 13) (.t 14), none, false, []⟩,
      ⟨(some 16), .mov (.t 1), none, false, []⟩,
      ⟨(some 17), .bin .none .eql (.t 15) (.t 16), none, false, []⟩] none [0, 1, 5, 17])
    (.cond (.t 17)
      (.seq (.ops [⟨(some 18), .mov (.t 5), none, false, []⟩,
        ⟨(some 4), .mov (.t 18), none, false, []⟩] none [4])
      .ret)
      .skip)))
    (.ops [⟨(some 11), .mov (.t 5), none, false, []⟩,
      ⟨(some 12), .bin .none .sub (.t 11) (.c (.int .i64 1)), none, false, []⟩,
      ⟨(some 5), .mov (.t 12), none, false, []⟩] none [0, 1, 5]))))))
  (.seq (.ops [⟨(some 4), .mov (.c (.int .i64 (-1))), none, false, []⟩] none [4])
  .ret)))
def internal_bytealg_LastIndexByteString_r : List RRes := [.tmp 4]
def internal_bytealg_LastIndexByteString_hi : Hi := ⟨[], [(0, "s"), (1, "c"), (2, "s"), (3, "c"), (5, "i")]⟩
def internal_bytealg_LastIndexByteString_an : An := (.seq .d (.seq (.seq .d (.loop [] [] [] .d)) .d))
def internal_bytealg_LastIndexByteString_fi : Fi := ⟨19, internal_bytealg_LastIndexByteString_c, internal_bytealg_LastIndexByteString_r, internal_bytealg_LastIndexByteString_an, internal_bytealg_LastIndexByteString_hi, none⟩
theorem internal_bytealg_LastIndexByteString_ok : FiOk Tryd.prog f_internal_bytealg_LastIndexByteString internal_bytealg_LastIndexByteString_fi :=
  ⟨fun _ => by kernel_rfl, fun _ h hlen => fun_sound (by kernel_rfl) (fn := Tryd.f42) (draw_sound _ _) Tryd.func42 rfl (by kernel_rfl : comp Tryd.prog 19 _ internal_bytealg_LastIndexByteString_c = some internal_bytealg_LastIndexByteString_c) (by kernel_rfl : cRes Tryd.prog Tryd.f42.results.toList = some internal_bytealg_LastIndexByteString_r) hlen h, fun _ h => nomatch h⟩

/-- strings.IndexByte: slots [0 s, 1 c, 2 s, 3 c] -/
def strings_IndexByte_c : SCode :=
  (.seq (.ops [⟨(some 4), .mov (.c (.int .i64 0)), none, false, []⟩] none [0, 1])
  (.seq (.ops [⟨(some 5), .mov (.t 0), none, false, []⟩,
    ⟨(some 6), .mov (.t 1), none, false, []⟩,
    ⟨(some 7), .call f_internal_stringslite_IndexByte [(.t 5), (.t 6)], none, false, []⟩,
    ⟨(some 4), .mov (.t 7), none, false, []⟩] none [4])
  .ret))
def strings_IndexByte_r : List RRes := [.tmp 4]
def strings_IndexByte_hi : Hi := ⟨[], [(0, "s"), (1, "c"), (2, "s"), (3, "c")]⟩
def strings_IndexByte_an : An := .d
def strings_IndexByte_fi : Fi := ⟨8, strings_IndexByte_c, strings_IndexByte_r, strings_IndexByte_an, strings_IndexByte_hi, none⟩
theorem strings_IndexByte_ok : FiOk Tryd.prog f_strings_IndexByte strings_IndexByte_fi :=
  ⟨fun _ => by kernel_rfl, fun _ h hlen => fun_sound (by kernel_rfl) (fn := Tryd.f32) (draw_sound _ _) Tryd.func32 rfl (by kernel_rfl : comp Tryd.prog 8 _ strings_IndexByte_c = some strings_IndexByte_c) (by kernel_rfl : cRes Tryd.prog Tryd.f32.results.toList = some strings_IndexByte_r) hlen h, fun _ h => nomatch h⟩

/-- internal/stringslite.IndexByte: slots [0 s, 1 c, 2 s, 3 c] -/
def internal_stringslite_IndexByte_c : SCode :=
  (.seq (.ops [⟨(some 4), .mov (.c (.int .i64 0)), none, false, []⟩] none [0, 1])
  (.seq (.ops [⟨(some 5), .mov (.t 0), none, false, []⟩,
    ⟨(some 6), .mov (.t 1), none, false, []⟩,
    ⟨(some 7), .ext .idxb [(.t 5), (.t 6)], none, false, []⟩,
    ⟨(some 4), .mov (.t 7), none, false, []⟩] none [4])
  .ret))
def internal_stringslite_IndexByte_r : List RRes := [.tmp 4]
def internal_stringslite_IndexByte_hi : Hi := ⟨[], [(0, "s"), (1, "c"), (2, "s"), (3, "c")]⟩
def internal_stringslite_IndexByte_an : An := .d
def internal_stringslite_IndexByte_fi : Fi := ⟨8, internal_stringslite_IndexByte_c, internal_stringslite_IndexByte_r, internal_stringslite_IndexByte_an, internal_stringslite_IndexByte_hi, none⟩
theorem internal_stringslite_IndexByte_ok : FiOk Tryd.prog f_internal_stringslite_IndexByte internal_stringslite_IndexByte_fi :=
  ⟨fun _ => by kernel_rfl, fun _ h hlen => fun_sound (by kernel_rfl) (fn := Tryd.f43) (draw_sound _ _) Tryd.func43 rfl (by kernel_rfl : comp Tryd.prog 8 _ internal_stringslite_IndexByte_c = some internal_stringslite_IndexByte_c) (by kernel_rfl : cRes Tryd.prog Tryd.f43.results.toList = some internal_stringslite_IndexByte_r) hlen h, fun _ h => nomatch h⟩

end Go.Proofs.YtakkifkpihdcnaaDoor
