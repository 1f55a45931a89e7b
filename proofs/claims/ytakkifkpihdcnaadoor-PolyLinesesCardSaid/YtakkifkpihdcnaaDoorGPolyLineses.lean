/- The functions' simplified code, printed by a program of the claim's author; each is checked against the program's own code. Conditions: none. -/
import Derived.Test.YtakkifkpihdcnaaDoorProg
import Derived.Test.YtakkifkpihdcnaaDoorVyM
import Derived.Test.YtakkifkpihdcnaaDoorVx4
set_option linter.unusedVariables false
set_option maxRecDepth 100000
namespace Go.Proofs.YtakkifkpihdcnaaDoor
open Go.Vc
abbrev f_gosem_cut_init : Nat := 2
abbrev f_law_PolyLineses : Nat := 3
abbrev f_top_TopDirty : Nat := 4
abbrev f_poly_Lines : Nat := 5
abbrev f_ref_PolyLines : Nat := 6
abbrev f_law_sameInts : Nat := 7
abbrev f_keep_TextOf : Nat := 8
abbrev f_keep_EditOf : Nat := 9
abbrev f_edit_Apply : Nat := 10
abbrev f_spans_Shift : Nat := 11
abbrev f_spans_Widen : Nat := 12
abbrev f_top_sameInts : Nat := 13
abbrev f_strings_SplitSeq : Nat := 14
abbrev f_poly_Of : Nat := 15
abbrev f_ref_cutLines : Nat := 16
abbrev f_ref_PolyOf : Nat := 17
abbrev f_keep_Picked : Nat := 18
abbrev f_edit_run : Nat := 19
abbrev f_spans_May : Nat := 20
abbrev f_edit_Check : Nat := 21
abbrev f_spans_full : Nat := 22
abbrev f_spans_Shifted : Nat := 23
abbrev f_spans_Widened : Nat := 24
abbrev f_strings_splitSeq : Nat := 25
abbrev f_edit_Undo : Nat := 26
abbrev f_edit_Made : Nat := 27
abbrev f_spans_Without : Nat := 28
abbrev f_spans_With : Nat := 29
abbrev f_spans_Joined : Nat := 30
abbrev f_strings_LastIndexByte : Nat := 31
abbrev f_strings_IndexByte : Nat := 32
abbrev f_strings_splitSeq_1 : Nat := 33
abbrev f_unicode_utf8_DecodeRuneInString : Nat := 34
abbrev f_strings_Index : Nat := 35
abbrev f_slices_Clone___api_Span_api_Span_ : Nat := 36
abbrev f_slices_DeleteFunc___api_Span_api_Span_ : Nat := 37
abbrev f_spans_Without_1 : Nat := 38
abbrev f_slices_BinarySearchFunc___api_Span_api_Span_int_ : Nat := 39
abbrev f_spans_With_1 : Nat := 40
abbrev f_slices_Insert___api_Span_api_Span_ : Nat := 41
abbrev f_internal_bytealg_LastIndexByteString : Nat := 42
abbrev f_internal_stringslite_IndexByte : Nat := 43
abbrev f_unicode_utf8_decodeRuneInStringSlow : Nat := 44
abbrev f_internal_stringslite_Index : Nat := 45
abbrev f_slices_IndexFunc___api_Span_api_Span_ : Nat := 46
abbrev f_slices_rotateRight_api_Span_ : Nat := 48
abbrev f_internal_bytealg_Cutover : Nat := 51
abbrev f_internal_bytealg_IndexRabinKarp_string_ : Nat := 52
abbrev f_slices_rotateLeft_api_Span_ : Nat := 53
abbrev f_internal_bytealg_hashStr_string_ : Nat := 54
abbrev f_slices_Reverse___api_Span_api_Span_ : Nat := 55
abbrev f_gosem_cut_vars : Nat := 76

/-- fustian/poly.Of: slots [0 text, 1 text, 3 h, 4 i] -/
def poly_Of_c : SCode :=
  (.seq (.ops [⟨(some 2), .alloc 0 [(.int .i64 0), (.int .i64 0)], none, false, []⟩] none [0, 2])
  (.seq (.ops [⟨(some 5), .build [(.int .i64 0), (.int .i64 0)] [(1, 1, (.c (.int .i64 1)))], none, false, []⟩,
    ⟨(some 3), .alloc 0 [(.int .i64 0), (.int .i64 0)], none, false, []⟩,
    ⟨none, .store 2 (.t 3) (.t 5), none, false, []⟩] none [0, 2, 3])
  (.seq (.seq (.ops [⟨(some 6), .mov (.t 0), none, false, []⟩,
    ⟨(some 7), .len true (.t 6), none, false, []⟩,
    ⟨(some 8), .mov (.c (.int .i64 0)), none, false, []⟩] none [0, 2, 3, 7, 8])
  (.block 0 (.loop [0, 2, 3, 7] [8] 2
    (.seq (.ops [⟨(some 9), .bin .none .lss (.t 8) (.t 7), none, false, []⟩] none [0, 2, 3, 7, 8, 9])
    (.seq (.cond (.t 9)
      .skip
      (.exit 0))
    (.seq (.block 1 (.seq (.ops [⟨(some 10), .mov (.t 8), none, false, []⟩,
      ⟨(some 4), .mov (.t 10), none, false, []⟩] none [0, 2, 3, 4, 7, 8])
    (.seq (.ops [⟨(some 11), .faddr 0 (.t 3), none, false, []⟩,
      ⟨(some 12), .load 1 false (.t 11), none, false, []⟩,
      ⟨(some 13), .bin .none .mul (.t 12) (.c (.int .i64 257)), none, false, []⟩,
      ⟨(some 14), .mov (.t 0), none, false, []⟩,
      ⟨(some 15), .mov (.t 4), none, false, []⟩,
      ⟨(some 16), .index 1 none false (.t 14) (.t 15), none, false, []⟩,
      ⟨(some 17), .conv .i64 (.t 16), none, false, []⟩,
      ⟨(some 18), .bin .none .add (.t 13) (.t 17), none, false, []⟩,
      ⟨(some 19), .bin .none .add (.t 18) (.c (.int .i64 1)), none, false, []⟩,
      ⟨(some 20), .bin .none .rem (.t 19) (.c (.int .i64 2147483647)), none, false, []⟩,
      ⟨(some 21), .faddr 0 (.t 3), none, false, []⟩,
      ⟨none, .store 1 (.t 21) (.t 20), none, false, []⟩] (some (0, 0, [0, 1, 2, 3, 4, 5, 6, 7, 8, 9, 10, 11])) [0, 2, 3, 7, 8])
    (.ops [⟨(some 22), .faddr 1 (.t 3), none, false, []⟩,
      ⟨(some 23), .load 1 false (.t 22), none, false, []⟩,
      ⟨(some 24), .bin .none .mul (.t 23) (.c (.int .i64 257)), none, false, []⟩,
      ⟨(some 25), .bin .none .rem (.t 24) (.c (.int .i64 2147483647)), none, false, []⟩,
      ⟨(some 26), .faddr 1 (.t 3), none, false, []⟩,
      ⟨none, .store 1 (.t 26) (.t 25), none, false, []⟩] none [0, 2, 3, 7, 8]))))
    (.ops [⟨(some 27), .bin .none .add (.t 8) (.c (.int .i64 1)), none, false, []⟩,
      ⟨(some 8), .mov (.t 27), none, false, []⟩] none [0, 2, 3, 7, 8])))))))
  (.seq (.ops [⟨(some 28), .load 2 true (.t 3), none, false, []⟩,
    ⟨none, .store 2 (.t 2) (.t 28), none, false, []⟩] none [2])
  .ret))))
def poly_Of_r : List RRes := [.cell 2 2 true]
def poly_Of_hi : Hi := ⟨[(2, (.st (.cons (.int .i64) (.cons (.int .i64) .nil)))), (3, (.st (.cons (.int .i64) (.cons (.int .i64) .nil))))], [(0, "text"), (1, "text"), (3, "h"), (4, "i")]⟩
def poly_Of_an : An := (.seq .d (.seq .d (.seq (.seq .d (.loop [3] [] [] .d)) .d)))
def poly_Of_fi : Fi := ⟨29, poly_Of_c, poly_Of_r, poly_Of_an, poly_Of_hi, none⟩
theorem poly_Of_ok : FiOk Tryd.prog f_poly_Of poly_Of_fi :=
  ⟨fun _ => by kernel_rfl, fun _ h hlen => fun_sound (by kernel_rfl) (fn := Tryd.f15) (draw_sound _ _) Tryd.func15 rfl (by kernel_rfl : comp Tryd.prog 29 _ poly_Of_c = some poly_Of_c) (by kernel_rfl : cRes Tryd.prog Tryd.f15.results.toList = some poly_Of_r) hlen h, fun _ h => nomatch h⟩

/-- fustian/poly.Lines: slots [0 text, 1 text, 4 out, 5 s] -/
def poly_Lines_c : RCode :=
  (.seqR (.ops [⟨(some 2), .mov (.c .nils), none, false, []⟩,
    ⟨(some 3), .mov (.c (.int .i64 0)), none, false, []⟩] none [0])
  (.seqR (.seq (.ops [⟨(some 6), .mov (.t 0), none, false, []⟩,
    ⟨(some 7), .len true (.t 6), none, false, []⟩,
    ⟨(some 8), .bin .none .gtr (.t 7) (.c (.int .i64 600)), none, false, []⟩] none [0, 8])
  (.cond (.t 8)
    (.seq (.ops [⟨(some 2), .mov (.c .nils), none, false, []⟩,
      ⟨(some 3), .mov (.c (.int .i64 1)), none, false, []⟩] none [2, 3])
    .ret)
    .skip))
  (.seqR (.ops [⟨(some 4), .alloc 0 [.nils], none, false, []⟩] none [0, 4])
  (.seqL (.seqR (.ops [⟨(some 9), .mov (.t 0), none, false, []⟩,
    ⟨(some 10), .call f_strings_SplitSeq [(.t 9), (.c (.str [10]))], none, false, []⟩] none [4, 10])
  (.block 0 (.rfun (.t 10) [11] (.ops [⟨(some 5), .mov (.t 11), none, false, []⟩] none [4, 5])
  (.block 1 (.ops [⟨(some 12), .load 1 false (.t 4), none, false, []⟩,
    ⟨(some 13), .mov (.t 5), none, false, []⟩,
    ⟨(some 14), .call f_poly_Of [(.t 13)], none, false, []⟩,
    ⟨(some 15), .field 0 1 false (.t 14), none, false, []⟩,
    ⟨(some 16), .bslice true 1 1 [(.int .i64 0)] [(0, 1, (.t 15))], none, false, []⟩,
    ⟨(some 17), .append 1 8 (.t 12) (.t 16), none, false, []⟩,
    ⟨none, .store 1 (.t 4) (.t 17), none, false, []⟩] (some (3, 0, [0, 1, 2, 3, 4, 5, 6])) [])))))
  (.seq (.ops [⟨(some 18), .load 1 false (.t 4), none, false, []⟩,
    ⟨(some 2), .mov (.t 18), none, false, []⟩,
    ⟨(some 3), .mov (.c (.int .i64 0)), none, false, []⟩] none [2, 3])
  .ret)))))
def poly_Lines_r : List RRes := [.tmp 2, .tmp 3]
theorem poly_Lines_ok : FlOk Tryd.prog f_poly_Lines 19 poly_Lines_c poly_Lines_r :=
  ⟨by kernel_rfl, fun hl h => fun_soundL (by kernel_rfl) (fn := Tryd.f5) (draw_sound _ _) Tryd.func5 rfl (by kernel_rfl : compL Tryd.prog 19 poly_Lines_c _ = some poly_Lines_c) (by kernel_rfl : cRes Tryd.prog Tryd.f5.results.toList = some poly_Lines_r) hl h⟩

/-- fustian/fustianref.cutLines: slots [0 text, 1 text, 3 out, 4 i] -/
def ref_cutLines_c : SCode :=
  (.seq (.ops [⟨(some 2), .mov (.c .nils), none, false, []⟩] none [0])
  (.seq (.ops [⟨(some 5), .bslice false 1 1 [(.str [])] [(0, 1, (.c (.str [])))], none, false, []⟩,
    ⟨(some 3), .mov (.t 5), none, false, []⟩] none [0, 3])
  (.seq (.seq (.ops [⟨(some 4), .mov (.c (.int .i64 0)), none, false, []⟩] none [0, 3, 4])
  (.block 0 (.loop [0] [3, 4] 1
    (.seq (.seq (.ops [⟨(some 6), .mov (.t 4), none, false, []⟩,
      ⟨(some 7), .mov (.t 0), none, false, []⟩,
      ⟨(some 8), .len true (.t 7), none, false, []⟩,
      ⟨(some 9), .bin .none .lss (.t 6) (.t 8), none, false, []⟩] none [0, 3, 4, 9])
    (.cond (.t 9)
      .skip
      (.exit 0)))
    (.join [0, 4] [3] 1 (.block 1 (.seq (.ops [⟨(some 12), .mov (.t 0), none, false, []⟩,
        ⟨(some 13), .mov (.t 4), none, false, []⟩,
        ⟨(some 14), .index 1 none false (.t 12) (.t 13), none, false, []⟩,
        ⟨(some 15), .bin .none .eql (.t 14) (.c (.int .u8 10)), none, false, []⟩] none [0, 3, 4, 15])
      (.cond (.t 15)
        (.ops [⟨(some 16), .mov (.t 3), none, false, []⟩,
          ⟨(some 17), .bslice true 1 1 [(.str [])] [(0, 1, (.c (.str [])))], none, false, []⟩,
          ⟨(some 18), .append 1 16 (.t 16) (.t 17), none, false, []⟩,
          ⟨(some 3), .mov (.t 18), none, false, []⟩] none [0, 3, 4])
        (.ops [⟨(some 19), .mov (.t 3), none, false, []⟩,
          ⟨(some 20), .mov (.t 3), none, false, []⟩,
          ⟨(some 21), .len false (.t 20), none, false, []⟩,
          ⟨(some 22), .bin .none .sub (.t 21) (.c (.int .i64 1)), none, false, []⟩,
          ⟨(some 23), .iaddr 1 none (.t 19) (.t 22), none, false, []⟩,
          ⟨(some 24), .load 1 false (.t 23), none, false, []⟩,
          ⟨(some 25), .mov (.t 0), none, false, []⟩,
          ⟨(some 26), .mov (.t 4), none, false, []⟩,
          ⟨(some 27), .mov (.t 4), none, false, []⟩,
          ⟨(some 28), .bin .none .add (.t 27) (.c (.int .i64 1)), none, false, []⟩,
          ⟨(some 29), .slice 0 (.t 25) (some (.t 26)) (some (.t 28)), none, false, []⟩,
          ⟨(some 30), .bin .none .add (.t 24) (.t 29), none, false, []⟩,
          ⟨(some 31), .iaddr 1 none (.t 19) (.t 22), none, false, []⟩,
          ⟨none, .store 1 (.t 31) (.t 30), none, false, []⟩] (some (0, 0, [0, 1, 2, 3, 4, 5, 6, 7, 8, 9, 10, 11, 12, 13])) [0, 3, 4]))))
    (.ops [⟨(some 10), .mov (.t 4), none, false, []⟩,
      ⟨(some 11), .bin .none .add (.t 10) (.c (.int .i64 1)), none, false, []⟩,
      ⟨(some 4), .mov (.t 11), none, false, []⟩] none [0, 3, 4]))))))
  (.seq (.ops [⟨(some 32), .mov (.t 3), none, false, []⟩,
    ⟨(some 2), .mov (.t 32), none, false, []⟩] none [2])
  .ret))))
def ref_cutLines_r : List RRes := [.tmp 2]
def ref_cutLines_hi : Hi := ⟨[(5, .str), (17, .str), (18, .str)], [(0, "text"), (1, "text"), (3, "out"), (4, "i")]⟩
def ref_cutLines_an : An := (.seq .d (.seq .d (.seq (.seq .d (.loop [3] [] [] .d)) .d)))
def ref_cutLines_fi : Fi := ⟨33, ref_cutLines_c, ref_cutLines_r, ref_cutLines_an, ref_cutLines_hi, none⟩
theorem ref_cutLines_ok : FiOk Tryd.prog f_ref_cutLines ref_cutLines_fi :=
  ⟨fun _ => by kernel_rfl, fun _ h hlen => fun_sound (by kernel_rfl) (fn := Tryd.f16) (draw_sound _ _) Tryd.func16 rfl (by kernel_rfl : comp Tryd.prog 33 _ ref_cutLines_c = some ref_cutLines_c) (by kernel_rfl : cRes Tryd.prog Tryd.f16.results.toList = some ref_cutLines_r) hlen h, fun _ h => nomatch h⟩

/-- fustian/fustianref.PolyOf: slots [0 text, 1 text, 3 power, 4 sum, 5 i] -/
def ref_PolyOf_c : SCode :=
  (.seq (.ops [⟨(some 2), .alloc 0 [(.int .i64 0), (.int .i64 0)], none, false, []⟩] none [0, 2])
  (.seq (.ops [⟨(some 3), .mov (.c (.int .i64 1)), none, false, []⟩] none [0, 2, 3])
  (.seq (.ops [⟨(some 4), .mov (.c (.int .i64 0)), none, false, []⟩] none [0, 2, 3, 4])
  (.seq (.seq (.ops [⟨(some 6), .mov (.t 0), none, false, []⟩,
    ⟨(some 7), .len true (.t 6), none, false, []⟩,
    ⟨(some 8), .bin .none .sub (.t 7) (.c (.int .i64 1)), none, false, []⟩,
    ⟨(some 5), .mov (.t 8), none, false, []⟩] none [0, 2, 3, 4, 5])
  (.block 0 (.loop [0, 2] [3, 4, 5] 1
    (.seq (.seq (.ops [⟨(some 9), .mov (.t 5), none, false, []⟩,
      ⟨(some 10), .bin .none .geq (.t 9) (.c (.int .i64 0)), none, false, []⟩] none [0, 2, 3, 4, 5, 10])
    (.cond (.t 10)
      .skip
      (.exit 0)))
    (.seq (.block 1 (.seq (.ops [⟨(some 13), .mov (.t 4), none, false, []⟩,
      ⟨(some 14), .mov (.t 0), none, false, []⟩,
      ⟨(some 15), .mov (.t 5), none, false, []⟩,
      ⟨(some 16), .index 1 none false (.t 14) (.t 15), none, false, []⟩,
      ⟨(some 17), .conv .i64 (.t 16), none, false, []⟩,
      ⟨(some 18), .bin .none .add (.t 17) (.c (.int .i64 1)), none, false, []⟩,
      ⟨(some 19), .mov (.t 3), none, false, []⟩,
      ⟨(some 20), .bin .none .mul (.t 18) (.t 19), none, false, []⟩,
      ⟨(some 21), .bin .none .add (.t 13) (.t 20), none, false, []⟩,
      ⟨(some 22), .bin .none .rem (.t 21) (.c (.int .i64 2147483647)), none, false, []⟩,
      ⟨(some 4), .mov (.t 22), none, false, []⟩] none [0, 2, 3, 4, 5])
    (.ops [⟨(some 23), .mov (.t 3), none, false, []⟩,
      ⟨(some 24), .bin .none .mul (.t 23) (.c (.int .i64 257)), none, false, []⟩,
      ⟨(some 25), .bin .none .rem (.t 24) (.c (.int .i64 2147483647)), none, false, []⟩,
      ⟨(some 3), .mov (.t 25), none, false, []⟩] none [0, 2, 3, 4, 5])))
    (.ops [⟨(some 11), .mov (.t 5), none, false, []⟩,
      ⟨(some 12), .bin .none .sub (.t 11) (.c (.int .i64 1)), none, false, []⟩,
      ⟨(some 5), .mov (.t 12), none, false, []⟩] none [0, 2, 3, 4, 5]))))))
  (.seq (.ops [⟨(some 26), .mov (.t 4), none, false, []⟩,
    ⟨(some 27), .mov (.t 3), none, false, []⟩,
    ⟨(some 28), .build [(.int .i64 0), (.int .i64 0)] [(0, 1, (.t 26)), (1, 1, (.t 27))], none, false, []⟩,
    ⟨none, .store 2 (.t 2) (.t 28), none, false, []⟩] none [2])
  .ret)))))
def ref_PolyOf_r : List RRes := [.cell 2 2 true]
def ref_PolyOf_hi : Hi := ⟨[(2, (.st (.cons (.int .i64) (.cons (.int .i64) .nil))))], [(0, "text"), (1, "text"), (3, "power"), (4, "sum"), (5, "i")]⟩
def ref_PolyOf_an : An := (.seq .d (.seq .d (.seq .d (.seq (.seq .d (.loop [] [] [] .d)) .d))))
def ref_PolyOf_fi : Fi := ⟨29, ref_PolyOf_c, ref_PolyOf_r, ref_PolyOf_an, ref_PolyOf_hi, none⟩
theorem ref_PolyOf_ok : FiOk Tryd.prog f_ref_PolyOf ref_PolyOf_fi :=
  ⟨fun _ => by kernel_rfl, fun _ h hlen => fun_sound (by kernel_rfl) (fn := Tryd.f17) (draw_sound _ _) Tryd.func17 rfl (by kernel_rfl : comp Tryd.prog 29 _ ref_PolyOf_c = some ref_PolyOf_c) (by kernel_rfl : cRes Tryd.prog Tryd.f17.results.toList = some ref_PolyOf_r) hlen h, fun _ h => nomatch h⟩

/-- fustian/fustianref.PolyLines: slots [0 text, 1 text, 4 out, 5 _, 6 s] -/
def ref_PolyLines_c : SCode :=
  (.seq (.ops [⟨(some 2), .mov (.c .nils), none, false, []⟩,
    ⟨(some 3), .mov (.c (.int .i64 0)), none, false, []⟩] none [0])
  (.seq (.seq (.ops [⟨(some 7), .mov (.t 0), none, false, []⟩,
    ⟨(some 8), .len true (.t 7), none, false, []⟩,
    ⟨(some 9), .bin .none .gtr (.t 8) (.c (.int .i64 600)), none, false, []⟩] none [0, 9])
  (.cond (.t 9)
    (.seq (.ops [⟨(some 2), .mov (.c .nils), none, false, []⟩,
      ⟨(some 3), .mov (.c (.int .i64 1)), none, false, []⟩] none [2, 3])
    .ret)
    .skip))
  (.seq (.ops [⟨(some 4), .newnil 1, none, false, []⟩] none [0, 4])
  (.seq (.seq (.ops [⟨(some 10), .mov (.t 0), none, false, []⟩,
    ⟨(some 11), .call f_ref_cutLines [(.t 10)], none, false, []⟩,
    ⟨(some 12), .len false (.t 11), none, false, []⟩,
    ⟨(some 13), .mov (.c (.int .i64 0)), none, false, []⟩] none [4, 11, 12, 13])
  (.block 0 (.loop [11, 12] [4, 13] 1
    (.seq (.ops [⟨(some 14), .bin .none .lss (.t 13) (.t 12), none, false, []⟩] none [4, 11, 12, 13, 14])
    (.seq (.cond (.t 14)
      .skip
      (.exit 0))
    (.seq (.block 1 (.seq (.ops [⟨(some 15), .iaddr 1 none (.t 11) (.t 13), none, false, []⟩,
      ⟨(some 16), .load 1 false (.t 15), none, false, []⟩,
      ⟨(some 6), .mov (.t 16), none, false, []⟩] none [4, 6, 11, 12, 13])
    (.ops [⟨(some 17), .mov (.t 4), none, false, []⟩,
      ⟨(some 18), .mov (.t 6), none, false, []⟩,
      ⟨(some 19), .call f_ref_PolyOf [(.t 18)], none, false, []⟩,
      ⟨(some 20), .field 0 1 false (.t 19), none, false, []⟩,
      ⟨(some 21), .bslice true 1 1 [(.int .i64 0)] [(0, 1, (.t 20))], none, false, []⟩,
      ⟨(some 22), .append 1 8 (.t 17) (.t 21), none, false, []⟩,
      ⟨(some 4), .mov (.t 22), none, false, []⟩] none [4, 11, 12, 13])))
    (.ops [⟨(some 23), .bin .none .add (.t 13) (.c (.int .i64 1)), none, false, []⟩,
      ⟨(some 13), .mov (.t 23), none, false, []⟩] none [4, 11, 12, 13])))))))
  (.seq (.ops [⟨(some 24), .mov (.t 4), none, false, []⟩,
    ⟨(some 2), .mov (.t 24), none, false, []⟩,
    ⟨(some 3), .mov (.c (.int .i64 0)), none, false, []⟩] none [2, 3])
  .ret)))))
def ref_PolyLines_r : List RRes := [.tmp 2, .tmp 3]
def ref_PolyLines_hi : Hi := ⟨[(4, (.int .i64)), (21, (.int .i64)), (22, (.int .i64))], [(0, "text"), (1, "text"), (4, "out"), (6, "s")]⟩
def ref_PolyLines_an : An := (.seq .d (.seq .d (.seq .d (.seq (.seq .d (.loop [4] [] [] .d)) .d))))
def ref_PolyLines_fi : Fi := ⟨25, ref_PolyLines_c, ref_PolyLines_r, ref_PolyLines_an, ref_PolyLines_hi, none⟩
theorem ref_PolyLines_ok : FiOk Tryd.prog f_ref_PolyLines ref_PolyLines_fi :=
  ⟨fun _ => by kernel_rfl, fun _ h hlen => fun_sound (by kernel_rfl) (fn := Tryd.f6) (draw_sound _ _) Tryd.func6 rfl (by kernel_rfl : comp Tryd.prog 25 _ ref_PolyLines_c = some ref_PolyLines_c) (by kernel_rfl : cRes Tryd.prog Tryd.f6.results.toList = some ref_PolyLines_r) hlen h, fun _ h => nomatch h⟩

/-- fustian/fustianlaw.sameInts: slots [0 a, 1 b, 2 a, 3 b, 5 i] -/
def law_sameInts_c : SCode :=
  (.seq (.ops [⟨(some 4), .mov (.c (.bool false)), none, false, []⟩] none [0, 1])
  (.seq (.seq (.ops [⟨(some 6), .mov (.t 0), none, false, []⟩,
    ⟨(some 7), .len false (.t 6), none, false, []⟩,
    ⟨(some 8), .mov (.t 1), none, false, []⟩,
    ⟨(some 9), .len false (.t 8), none, false, []⟩,
    ⟨(some 10), .bin .none .neq (.t 7) (.t 9), none, false, []⟩] none [0, 1, 10])
  (.cond (.t 10)
    (.seq (.ops [⟨(some 4), .mov (.c (.bool false)), none, false, []⟩] none [4])
    .ret)
    .skip))
  (.seq (.seq (.ops [⟨(some 5), .mov (.c (.int .i64 0)), none, false, []⟩] none [0, 1, 5])
  (.block 0 (.loop [0, 1] [5] 0
    (.seq (.seq (.ops [⟨(some 11), .mov (.t 5), none, false, []⟩,
      ⟨(some 12), .mov (.t 0), none, false, []⟩,
      ⟨(some 13), .len false (.t 12), none, false, []⟩,
      ⟨(some 14), .bin .none .lss (.t 11) (.t 13), none, false, []⟩] none [0, 1, 5, 14])
    (.cond (.t 14)
      .skip
      (.exit 0)))
    (.seq (.block 1 (.seq (.ops [⟨(some 17), .mov (.t 0), none, false, []⟩,
      ⟨(some 18), .mov (.t 5), none, false, []⟩,
      ⟨(some 19), .iaddr 1 none (.t 17) (.t 18), none, false, []⟩,
      ⟨(some 20), .load 1 false (.t 19), none, false, []⟩,
      ⟨(some 21), .mov (.t 1), none, false, []⟩,
      ⟨(some 22), .mov (.t 5), none, false, []⟩,
      ⟨(some 23), .iaddr 1 none (.t 21) (.t 22), none, false, []⟩,
      ⟨(some 24), .load 1 false (.t 23), none, false, []⟩,
      ⟨(some 25), .bin .none .neq (.t 20) (.t 24), none, false, []⟩] (some (0, 0, [0, 1, 2, 3, 4, 5, 6, 7, 8])) [0, 1, 5, 25])
    (.cond (.t 25)
      (.seq (.ops [⟨(some 4), .mov (.c (.bool false)), none, false, []⟩] none [4])
      .ret)
      .skip)))
    (.ops [⟨(some 15), .mov (.t 5), none, false, []⟩,
      ⟨(some 16), .bin .none .add (.t 15) (.c (.int .i64 1)), none, false, []⟩,
      ⟨(some 5), .mov (.t 16), none, false, []⟩] none [0, 1, 5]))))))
  (.seq (.ops [⟨(some 4), .mov (.c (.bool true)), none, false, []⟩] none [4])
  .ret))))
def law_sameInts_r : List RRes := [.tmp 4]
def law_sameInts_hi : Hi := ⟨[], [(0, "a"), (1, "b"), (2, "a"), (3, "b"), (5, "i")]⟩
def law_sameInts_an : An := (.seq .d (.seq .d (.seq (.seq .d (.loop [] [] [] .d)) .d)))
def law_sameInts_fi : Fi := ⟨26, law_sameInts_c, law_sameInts_r, law_sameInts_an, law_sameInts_hi, none⟩
theorem law_sameInts_ok : FiOk Tryd.prog f_law_sameInts law_sameInts_fi :=
  ⟨fun _ => by kernel_rfl, fun _ h hlen => fun_sound (by kernel_rfl) (fn := Tryd.f7) (draw_sound _ _) Tryd.func7 rfl (by kernel_rfl : comp Tryd.prog 26 _ law_sameInts_c = some law_sameInts_c) (by kernel_rfl : cRes Tryd.prog Tryd.f7.results.toList = some law_sameInts_r) hlen h, fun _ h => nomatch h⟩

/-- fustian/fustianlaw.PolyLineses: slots [0 text, 1 text, 3 x, 4 e, 5 y, 6 f] -/
def law_PolyLineses_c : SCode :=
  (.seq (.ops [⟨(some 2), .mov (.c (.bool false)), none, false, []⟩] none [0])
  (.seq (.ops [⟨(some 8), .mov (.t 0), none, false, []⟩,
    ⟨(some 9), .call f_poly_Lines [(.t 8)], none, false, []⟩,
    ⟨(some 7), .mov (.t 9), none, false, []⟩,
    ⟨(some 10), .extract (.t 7) 0, none, false, []⟩,
    ⟨(some 11), .extract (.t 7) 1, none, false, []⟩,
    ⟨(some 3), .mov (.t 10), none, false, []⟩,
    ⟨(some 4), .mov (.t 11), none, false, []⟩] none [0, 3, 4])
  (.seq (.ops [⟨(some 13), .mov (.t 0), none, false, []⟩,
    ⟨(some 14), .call f_ref_PolyLines [(.t 13)], none, false, []⟩,
    ⟨(some 12), .mov (.t 14), none, false, []⟩,
    ⟨(some 15), .extract (.t 12) 0, none, false, []⟩,
    ⟨(some 16), .extract (.t 12) 1, none, false, []⟩,
    ⟨(some 5), .mov (.t 15), none, false, []⟩,
    ⟨(some 6), .mov (.t 16), none, false, []⟩] none [3, 4, 5, 6])
  (.seq (.ops [⟨(some 17), .mov (.t 3), none, false, []⟩,
    ⟨(some 18), .mov (.t 5), none, false, []⟩,
    ⟨(some 19), .call f_law_sameInts [(.t 17), (.t 18)], none, false, []⟩,
    ⟨(some 20), .mov (.t 19), none, true, []⟩,
    ⟨(some 21), .mov (.t 4), (some (20, true)), false, []⟩,
    ⟨(some 22), .mov (.t 6), (some (20, true)), false, []⟩,
    ⟨(some 23), .bin .none .eql (.t 21) (.t 22), (some (20, true)), false, []⟩,
    ⟨(some 24), .pick (.t 20) (.t 23) (.c (.bool false)), none, false, []⟩,
    ⟨(some 2), .mov (.t 24), none, false, []⟩] none [2])
  .ret))))
def law_PolyLineses_r : List RRes := [.tmp 2]
def law_PolyLineses_hi : Hi := ⟨[], [(0, "text"), (1, "text"), (3, "x"), (4, "e"), (5, "y"), (6, "f")]⟩
def law_PolyLineses_an : An := .d
def law_PolyLineses_fi : Fi := ⟨25, law_PolyLineses_c, law_PolyLineses_r, law_PolyLineses_an, law_PolyLineses_hi, none⟩
theorem law_PolyLineses_ok : FiOk Tryd.prog f_law_PolyLineses law_PolyLineses_fi :=
  ⟨fun _ => by kernel_rfl, fun _ h hlen => fun_sound (by kernel_rfl) (fn := Tryd.f3) (draw_sound _ _) Tryd.func3 rfl (by kernel_rfl : comp Tryd.prog 25 _ law_PolyLineses_c = some law_PolyLineses_c) (by kernel_rfl : cRes Tryd.prog Tryd.f3.results.toList = some law_PolyLineses_r) hlen h, fun _ h => nomatch h⟩

end Go.Proofs.YtakkifkpihdcnaaDoor
