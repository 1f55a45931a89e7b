/- The functions' simplified code, printed by a program of the claim's author; each is checked against the program's own code. Conditions: none. -/
import Derived.Test.YtakkifkpihdcnaaDoorProg
import Derived.Test.YtakkifkpihdcnaaDoorVyM
import Derived.Test.YtakkifkpihdcnaaDoorVx4
set_option linter.unusedVariables false
set_option maxRecDepth 100000
namespace Go.Proofs.YtakkifkpihdcnaaDoor.P
open Go.Vc
abbrev f_gosem_cut_init : Nat := 2
abbrev f_law_PolyLineses : Nat := 3
abbrev f_top_TopDirty : Nat := 4
abbrev f_poly_Lines : Nat := 5
abbrev f_ref_PolyLines : Nat := 6
abbrev f_law_sameInts : Nat := 7
abbrev f_keep_TextOf : Nat := 8
abbrev f_keep_EditOf : Nat := 9
abbrev f_edit_Apply : Nat := 10
abbrev f_spans_Shift : Nat := 11
abbrev f_spans_Widen : Nat := 12
abbrev f_top_sameInts : Nat := 13
abbrev f_strings_SplitSeq : Nat := 14
abbrev f_poly_Of : Nat := 15
abbrev f_ref_cutLines : Nat := 16
abbrev f_ref_PolyOf : Nat := 17
abbrev f_keep_Picked : Nat := 18
abbrev f_edit_run : Nat := 19
abbrev f_spans_May : Nat := 20
abbrev f_edit_Check : Nat := 21
abbrev f_spans_full : Nat := 22
abbrev f_spans_Shifted : Nat := 23
abbrev f_spans_Widened : Nat := 24
abbrev f_strings_splitSeq : Nat := 25
abbrev f_edit_Undo : Nat := 26
abbrev f_edit_Made : Nat := 27
abbrev f_spans_Without : Nat := 28
abbrev f_spans_With : Nat := 29
abbrev f_spans_Joined : Nat := 30
abbrev f_strings_LastIndexByte : Nat := 31
abbrev f_strings_IndexByte : Nat := 32
abbrev f_strings_splitSeq_1 : Nat := 33
abbrev f_unicode_utf8_DecodeRuneInString : Nat := 34
abbrev f_strings_Index : Nat := 35
abbrev f_slices_Clone___api_Span_api_Span_ : Nat := 36
abbrev f_slices_DeleteFunc___api_Span_api_Span_ : Nat := 37
abbrev f_spans_Without_1 : Nat := 38
abbrev f_slices_BinarySearchFunc___api_Span_api_Span_int_ : Nat := 39
abbrev f_spans_With_1 : Nat := 40
abbrev f_slices_Insert___api_Span_api_Span_ : Nat := 41
abbrev f_internal_bytealg_LastIndexByteString : Nat := 42
abbrev f_internal_stringslite_IndexByte : Nat := 43
abbrev f_unicode_utf8_decodeRuneInStringSlow : Nat := 44
abbrev f_internal_stringslite_Index : Nat := 45
abbrev f_slices_IndexFunc___api_Span_api_Span_ : Nat := 46
abbrev f_slices_rotateRight_api_Span_ : Nat := 48
abbrev f_internal_bytealg_Cutover : Nat := 51
abbrev f_internal_bytealg_IndexRabinKarp_string_ : Nat := 52
abbrev f_slices_rotateLeft_api_Span_ : Nat := 53
abbrev f_internal_bytealg_hashStr_string_ : Nat := 54
abbrev f_slices_Reverse___api_Span_api_Span_ : Nat := 55
abbrev f_gosem_cut_vars : Nat := 76

/-- fustian/poly.Lines: slots [0 text, 1 text, 4 out, 5 s] -/
def poly_Lines_c : RCode :=
  (.seqR (.ops [⟨(some 2), .mov (.c .nils), none, false, []⟩,
    ⟨(some 3), .mov (.c (.int .i64 0)), none, false, []⟩] none [0])
  (.seqR (.seq (.ops [⟨(some 6), .mov (.t 0), none, false, []⟩,
    ⟨(some 7), .len true (.t 6), none, false, []⟩,
    ⟨(some 8), .bin .none .gtr (.t 7) (.c (.int .i64 600)), none, false, []⟩] none [0, 8])
  (.cond (.t 8)
    (.seq (.ops [⟨(some 2), .mov (.c .nils), none, false, []⟩,
      ⟨(some 3), .mov (.c (.int .i64 1)), none, false, []⟩] none [2, 3])
    .ret)
    .skip))
  (.seqR (.ops [⟨(some 4), .alloc 0 [.nils], none, false, []⟩] none [0, 4])
  (.seqL (.seqR (.ops [⟨(some 9), .mov (.t 0), none, false, []⟩,
    ⟨(some 10), .call f_strings_SplitSeq [(.t 9), (.c (.str [10]))], none, false, []⟩] none [4, 10])
  (.block 0 (.rfun (.t 10) [11] (.ops [⟨(some 5), .mov (.t 11), none, false, []⟩] none [4, 5])
  (.block 1 (.ops [⟨(some 12), .load 1 false (.t 4), none, false, []⟩,
    ⟨(some 13), .mov (.t 5), none, false, []⟩,
    ⟨(some 14), .call f_poly_Of [(.t 13)], none, false, []⟩,
    ⟨(some 15), .field 0 1 false (.t 14), none, false, []⟩,
    ⟨(some 16), .bslice true 1 1 [(.int .i64 0)] [(0, 1, (.t 15))], none, false, []⟩,
    ⟨(some 17), .append 1 8 (.t 12) (.t 16), none, false, []⟩,
    ⟨none, .store 1 (.t 4) (.t 17), none, false, []⟩] (some (3, 0, [0, 1, 2, 3, 4, 5, 6])) [])))))
  (.seq (.ops [⟨(some 18), .load 1 false (.t 4), none, false, []⟩,
    ⟨(some 2), .mov (.t 18), none, false, []⟩,
    ⟨(some 3), .mov (.c (.int .i64 0)), none, false, []⟩] none [2, 3])
  .ret)))))
def poly_Lines_r : List RRes := [.tmp 2, .tmp 3]
theorem poly_Lines_ok : FlOk Tryd.prog f_poly_Lines 19 poly_Lines_c poly_Lines_r :=
  ⟨by kernel_rfl, fun hl h => fun_soundL (by kernel_rfl) (fn := Tryd.f5) (draw_sound _ _) Tryd.func5 rfl (by kernel_rfl : compL Tryd.prog 19 poly_Lines_c _ = some poly_Lines_c) (by kernel_rfl : cRes Tryd.prog Tryd.f5.results.toList = some poly_Lines_r) hl h⟩

/-- strings.SplitSeq: slots [0 s, 1 sep, 2 s, 3 sep] -/
def strings_SplitSeq_c : SCode :=
  (.seq (.ops [⟨(some 4), .mov (.c .nilf), none, false, []⟩] none [0, 1])
  (.seq (.ops [⟨(some 5), .mov (.t 0), none, false, []⟩,
    ⟨(some 6), .mov (.t 1), none, false, []⟩,
    ⟨(some 7), .call f_strings_splitSeq [(.t 5), (.t 6), (.c (.int .i64 0))], none, false, []⟩,
    ⟨(some 4), .mov (.t 7), none, false, []⟩] none [4])
  .ret))
def strings_SplitSeq_r : List RRes := [.tmp 4]
def strings_SplitSeq_hi : Hi := ⟨[], [(0, "s"), (1, "sep"), (2, "s"), (3, "sep")]⟩
def strings_SplitSeq_an : An := .d
def strings_SplitSeq_fi : Fi := ⟨8, strings_SplitSeq_c, strings_SplitSeq_r, strings_SplitSeq_an, strings_SplitSeq_hi, none⟩
theorem strings_SplitSeq_ok : FiOk Tryd.prog f_strings_SplitSeq strings_SplitSeq_fi :=
  ⟨fun _ => by kernel_rfl, fun _ h hlen => fun_sound (by kernel_rfl) (fn := Tryd.f14) (draw_sound _ _) Tryd.func14 rfl (by kernel_rfl : comp Tryd.prog 8 _ strings_SplitSeq_c = some strings_SplitSeq_c) (by kernel_rfl : cRes Tryd.prog Tryd.f14.results.toList = some strings_SplitSeq_r) hlen h, fun _ h => nomatch h⟩

/-- strings.splitSeq: slots [0 s, 1 sep, 2 sepSave, 3 s, 4 sep, 5 sepSave] -/
def strings_splitSeq_c : SCode :=
  (.seq (.ops [⟨(some 3), .box 0 (.t 0), none, false, []⟩,
    ⟨(some 4), .box 0 (.t 1), none, false, []⟩,
    ⟨(some 5), .box 0 (.t 2), none, false, []⟩,
    ⟨(some 6), .mov (.c .nilf), none, false, []⟩] none [3, 4, 5])
  (.seq (.ops [⟨(some 7), .mkfunc (.func f_strings_splitSeq_1) [] [(.t 4), (.t 3), (.t 5)], none, false, []⟩,
    ⟨(some 6), .mov (.t 7), none, false, []⟩] none [6])
  .ret))
def strings_splitSeq_r : List RRes := [.tmp 6]
def strings_splitSeq_hi : Hi := ⟨[], [(0, "s"), (1, "sep"), (2, "sepSave"), (3, "s"), (4, "sep"), (5, "sepSave")]⟩
def strings_splitSeq_an : An := .d
def strings_splitSeq_fi : Fi := ⟨8, strings_splitSeq_c, strings_splitSeq_r, strings_splitSeq_an, strings_splitSeq_hi, none⟩
theorem strings_splitSeq_ok : FiOk Tryd.prog f_strings_splitSeq strings_splitSeq_fi :=
  ⟨fun _ => by kernel_rfl, fun _ h hlen => fun_sound (by kernel_rfl) (fn := Tryd.f25) (draw_sound _ _) Tryd.func25 rfl (by kernel_rfl : comp Tryd.prog 8 _ strings_splitSeq_c = some strings_splitSeq_c) (by kernel_rfl : cRes Tryd.prog Tryd.f25.results.toList = some strings_splitSeq_r) hlen h, fun _ h => nomatch h⟩

/-- strings.splitSeq$1: slots [0 yield, 4 yield, 5 _, 6 size, 7 i, 8 frag] -/
def strings_splitSeq_1_c : SCode :=
  (.seq (.seq (.ops [⟨(some 9), .load 1 false (.t 1), none, false, []⟩,
    ⟨(some 10), .len true (.t 9), none, false, []⟩,
    ⟨(some 11), .bin .none .eql (.t 10) (.c (.int .i64 0)), none, false, []⟩] none [0, 1, 2, 3, 11])
  (.cond (.t 11)
    (.seq (.block 0 (.loop [0, 2] [] 0
      (.seq (.seq (.ops [⟨(some 12), .load 1 false (.t 2), none, false, []⟩,
        ⟨(some 13), .len true (.t 12), none, false, []⟩,
        ⟨(some 14), .bin .none .gtr (.t 13) (.c (.int .i64 0)), none, false, []⟩] none [0, 2, 14])
      (.cond (.t 14)
        .skip
        (.exit 0)))
      (.block 1 (.seq (.ops [⟨(some 16), .load 1 false (.t 2), none, false, []⟩,
        ⟨(some 17), .call f_unicode_utf8_DecodeRuneInString [(.t 16)], none, false, []⟩,
        ⟨(some 15), .mov (.t 17), none, false, []⟩,
        ⟨(some 18), .extract (.t 15) 0, none, false, []⟩,
        ⟨(some 19), .extract (.t 15) 1, none, false, []⟩,
        ⟨(some 5), .mov (.t 18), none, false, []⟩,
        ⟨(some 6), .mov (.t 19), none, false, []⟩] none [0, 2, 6])
      (.seq (.seq (.ops [⟨(some 20), .mov (.t 0), none, false, []⟩,
        ⟨(some 21), .load 1 false (.t 2), none, false, []⟩,
        ⟨(some 22), .mov (.t 6), none, false, []⟩,
        ⟨(some 23), .slice 0 (.t 21) none (some (.t 22)), none, false, []⟩,
        ⟨(some 24), .callv (.t 20) [(.t 23)], none, false, []⟩,
        ⟨(some 25), .not (.t 24), none, false, []⟩] none [0, 2, 6, 25])
      (.cond (.t 25)
        .ret
        .skip))
      (.ops [⟨(some 26), .load 1 false (.t 2), none, false, []⟩,
        ⟨(some 27), .mov (.t 6), none, false, []⟩,
        ⟨(some 28), .slice 0 (.t 26) (some (.t 27)) none, none, false, []⟩,
        ⟨none, .store 1 (.t 2) (.t 28), none, false, []⟩] none [0, 2])))))))
    .ret)
    .skip))
  (.seq (.block 2 (.loop [0, 1, 2, 3] [] 0
    (.block 3 (.seq (.ops [⟨(some 29), .load 1 false (.t 2), none, false, []⟩,
      ⟨(some 30), .load 1 false (.t 1), none, false, []⟩,
      ⟨(some 31), .call f_strings_Index [(.t 29), (.t 30)], none, false, []⟩,
      ⟨(some 7), .mov (.t 31), none, false, []⟩] none [0, 1, 2, 3, 7])
    (.seq (.seq (.ops [⟨(some 32), .mov (.t 7), none, false, []⟩,
      ⟨(some 33), .bin .none .lss (.t 32) (.c (.int .i64 0)), none, false, []⟩] none [0, 1, 2, 3, 7, 33])
    (.cond (.t 33)
      (.exit 2)
      .skip))
    (.seq (.ops [⟨(some 34), .load 1 false (.t 2), none, false, []⟩,
      ⟨(some 35), .mov (.t 7), none, false, []⟩,
      ⟨(some 36), .load 1 false (.t 3), none, false, []⟩,
      ⟨(some 37), .bin .none .add (.t 35) (.t 36), none, false, []⟩,
      ⟨(some 38), .slice 0 (.t 34) none (some (.t 37)), none, false, []⟩,
      ⟨(some 8), .mov (.t 38), none, false, []⟩] none [0, 1, 2, 3, 7, 8])
    (.seq (.seq (.ops [⟨(some 39), .mov (.t 0), none, false, []⟩,
      ⟨(some 40), .mov (.t 8), none, false, []⟩,
      ⟨(some 41), .callv (.t 39) [(.t 40)], none, false, []⟩,
      ⟨(some 42), .not (.t 41), none, false, []⟩] none [0, 1, 2, 3, 7, 42])
    (.cond (.t 42)
      .ret
      .skip))
    (.ops [⟨(some 43), .load 1 false (.t 2), none, false, []⟩,
      ⟨(some 44), .mov (.t 7), none, false, []⟩,
      ⟨(some 45), .load 1 false (.t 1), none, false, []⟩,
      ⟨(some 46), .len true (.t 45), none, false, []⟩,
      ⟨(some 47), .bin .none .add (.t 44) (.t 46), none, false, []⟩,
      ⟨(some 48), .slice 0 (.t 43) (some (.t 47)) none, none, false, []⟩,
      ⟨none, .store 1 (.t 2) (.t 48), none, false, []⟩] none [0, 1, 2, 3]))))))))
  (.ops [⟨(some 49), .mov (.t 0), none, false, []⟩,
    ⟨(some 50), .load 1 false (.t 2), none, false, []⟩,
    ⟨(some 51), .callv (.t 49) [(.t 50)], none, false, []⟩] none [])))
def strings_splitSeq_1_r : List RRes := []
def strings_splitSeq_1_hi : Hi := ⟨[], [(0, "yield"), (4, "yield"), (6, "size"), (7, "i"), (8, "frag")]⟩
def strings_splitSeq_1_an : An := (.seq (.seq .d (.seq (.seq (.loop [0, 2] [] [] .d) .d) .d)) (.seq (.loop [0, 2] [] [] .d) .d))
def strings_splitSeq_1_fi : Fi := ⟨52, strings_splitSeq_1_c, strings_splitSeq_1_r, strings_splitSeq_1_an, strings_splitSeq_1_hi, none⟩
theorem strings_splitSeq_1_ok : FiOk Tryd.prog f_strings_splitSeq_1 strings_splitSeq_1_fi :=
  ⟨fun _ => by kernel_rfl, fun _ h hlen => fun_sound (by kernel_rfl) (fn := Tryd.f33) (draw_sound _ _) Tryd.func33 rfl (by kernel_rfl : comp Tryd.prog 52 _ strings_splitSeq_1_c = some strings_splitSeq_1_c) (by kernel_rfl : cRes Tryd.prog Tryd.f33.results.toList = some strings_splitSeq_1_r) hlen h, fun _ h => nomatch h⟩

/-- strings.Index: slots [0 s, 1 substr, 2 s, 3 substr] -/
def strings_Index_c : SCode :=
  (.seq (.ops [⟨(some 4), .mov (.c (.int .i64 0)), none, false, []⟩] none [0, 1])
  (.seq (.ops [⟨(some 5), .mov (.t 0), none, false, []⟩,
    ⟨(some 6), .mov (.t 1), none, false, []⟩,
    ⟨(some 7), .call f_internal_stringslite_Index [(.t 5), (.t 6)], none, false, []⟩,
    ⟨(some 4), .mov (.t 7), none, false, []⟩] none [4])
  .ret))
def strings_Index_r : List RRes := [.tmp 4]
def strings_Index_hi : Hi := ⟨[], [(0, "s"), (1, "substr"), (2, "s"), (3, "substr")]⟩
def strings_Index_an : An := .d
def strings_Index_fi : Fi := ⟨8, strings_Index_c, strings_Index_r, strings_Index_an, strings_Index_hi, none⟩
theorem strings_Index_ok : FiOk Tryd.prog f_strings_Index strings_Index_fi :=
  ⟨fun _ => by kernel_rfl, fun _ h hlen => fun_sound (by kernel_rfl) (fn := Tryd.f35) (draw_sound _ _) Tryd.func35 rfl (by kernel_rfl : comp Tryd.prog 8 _ strings_Index_c = some strings_Index_c) (by kernel_rfl : cRes Tryd.prog Tryd.f35.results.toList = some strings_Index_r) hlen h, fun _ h => nomatch h⟩

/-- internal/stringslite.Index: slots [0 s, 1 substr, 2 s, 3 substr, 5 n, 6 c0, 7 c1, 8 i, 9 t, 10 fails, 11 o, 12 r, 13 j] -/
def internal_stringslite_Index_c : SCode :=
  (.seq (.ops [⟨(some 4), .mov (.c (.int .i64 0)), none, false, []⟩] none [0, 1])
  (.seq (.ops [⟨(some 14), .mov (.t 1), none, false, []⟩,
    ⟨(some 15), .len true (.t 14), none, false, []⟩,
    ⟨(some 5), .mov (.t 15), none, false, []⟩] none [0, 1, 5])
  (.seq (.block 0 (.seq (.ops [⟨(some 17), .mov (.t 5), none, false, []⟩,
    ⟨(some 18), .bin .none .eql (.t 17) (.c (.int .i64 0)), none, false, []⟩,
    ⟨(some 19), .mov (.t 18), none, true, []⟩,
    ⟨(some 20), .mov (.t 1), (some (19, false)), false, []⟩,
    ⟨(some 21), .mov (.t 0), (some (19, false)), false, []⟩,
    ⟨(some 22), .bin .none .eql (.t 20) (.t 21), (some (19, false)), false, []⟩,
    ⟨(some 23), .pick (.t 19) (.c (.bool true)) (.t 22), none, false, []⟩,
    ⟨(some 16), .mov (.t 23), none, false, []⟩] none [0, 1, 5, 16])
  (.cond (.t 16)
    (.seq (.ops [⟨(some 4), .mov (.c (.int .i64 0)), none, false, []⟩] none [4])
    .ret)
    (.seq (.ops [⟨(some 25), .mov (.t 5), none, false, []⟩,
      ⟨(some 26), .bin .none .eql (.t 25) (.c (.int .i64 1)), none, false, []⟩,
      ⟨(some 24), .mov (.t 26), none, false, []⟩] none [0, 1, 5, 24])
    (.cond (.t 24)
      (.seq (.ops [⟨(some 27), .mov (.t 0), none, false, []⟩,
        ⟨(some 28), .mov (.t 1), none, false, []⟩,
        ⟨(some 29), .index 1 none false (.t 28) (.c (.int .i64 0)), none, false, []⟩,
        ⟨(some 30), .call f_internal_stringslite_IndexByte [(.t 27), (.t 29)], none, false, []⟩,
        ⟨(some 4), .mov (.t 30), none, false, []⟩] none [4])
      .ret)
      (.seq (.ops [⟨(some 32), .mov (.t 5), none, false, []⟩,
        ⟨(some 33), .mov (.t 0), none, false, []⟩,
        ⟨(some 34), .len true (.t 33), none, false, []⟩,
        ⟨(some 35), .bin .none .geq (.t 32) (.t 34), none, false, []⟩,
        ⟨(some 31), .mov (.t 35), none, false, []⟩] none [0, 1, 5, 31])
      (.cond (.t 31)
        (.seq (.ops [⟨(some 4), .mov (.c (.int .i64 (-1))), none, false, []⟩] none [4])
        .ret)
        (.seq (.ops [⟨(some 37), .mov (.t 5), none, false, []⟩,
          ⟨(some 38), .bad, none, false, []⟩,
          ⟨(some 39), .bin .none .leq (.t 37) (.t 38), none, false, []⟩,
          ⟨(some 40), .mov (.t 39), none, true, []⟩,
          ⟨(some 41), .mov (.t 0), (some (40, true)), false, []⟩,
          ⟨(some 42), .len true (.t 41), (some (40, true)), false, []⟩,
          ⟨(some 43), .bin .none .leq (.t 42) (.c (.int .i64 64)), (some (40, true)), false, []⟩,
          ⟨(some 44), .pick (.t 40) (.t 43) (.c (.bool false)), none, false, []⟩,
          ⟨(some 36), .mov (.t 44), none, false, []⟩] none [0, 1, 5, 36])
        (.cond (.t 36)
          (.seq (.ops [⟨(some 45), .mov (.t 0), none, false, []⟩,
            ⟨(some 46), .mov (.t 1), none, false, []⟩,
            ⟨(some 47), .bad, none, false, []⟩,
            ⟨(some 4), .mov (.t 47), none, false, []⟩] none [4])
          .ret)
          .skip)))))))))
  (.seq (.ops [⟨(some 48), .mov (.t 1), none, false, []⟩,
    ⟨(some 49), .index 1 none false (.t 48) (.c (.int .i64 0)), none, false, []⟩,
    ⟨(some 6), .mov (.t 49), none, false, []⟩] none [0, 1, 5, 6])
  (.seq (.ops [⟨(some 50), .mov (.t 1), none, false, []⟩,
    ⟨(some 51), .index 1 none false (.t 50) (.c (.int .i64 1)), none, false, []⟩,
    ⟨(some 7), .mov (.t 51), none, false, []⟩] none [0, 1, 5, 6, 7])
  (.seq (.ops [⟨(some 8), .mov (.c (.int .i64 0)), none, false, []⟩] none [0, 1, 5, 6, 7, 8])
  (.seq (.ops [⟨(some 52), .mov (.t 0), none, false, []⟩,
    ⟨(some 53), .len true (.t 52), none, false, []⟩,
    ⟨(some 54), .mov (.t 5), none, false, []⟩,
    ⟨(some 55), .bin .none .sub (.t 53) (.t 54), none, false, []⟩,
    ⟨(some 56), .bin .none .add (.t 55) (.c (.int .i64 1)), none, false, []⟩,
    ⟨(some 9), .mov (.t 56), none, false, []⟩] none [0, 1, 5, 6, 7, 8, 9])
  (.seq (.ops [⟨(some 10), .mov (.c (.int .i64 0)), none, false, []⟩] none [0, 1, 5, 6, 7, 8, 9, 10])
  (.seq (.block 1 (.loop [0, 1, 5, 6, 7, 9] [8, 10] 0
    (.seq (.seq (.ops [⟨(some 57), .mov (.t 8), none, false, []⟩,
      ⟨(some 58), .mov (.t 9), none, false, []⟩,
      ⟨(some 59), .bin .none .lss (.t 57) (.t 58), none, false, []⟩] none [0, 1, 5, 6, 7, 8, 9, 10, 59])
    (.cond (.t 59)
      .skip
      (.exit 1)))
    (.block 2 (.join [0, 1, 5, 6, 7, 9, 10] [8] 0 (.seq (.ops [⟨(some 60), .mov (.t 0), none, false, []⟩,
        ⟨(some 61), .mov (.t 8), none, false, []⟩,
        ⟨(some 62), .index 1 none false (.t 60) (.t 61), none, false, []⟩,
        ⟨(some 63), .mov (.t 6), none, false, []⟩,
        ⟨(some 64), .bin .none .neq (.t 62) (.t 63), none, false, []⟩] none [0, 1, 5, 6, 7, 8, 9, 10, 64])
      (.cond (.t 64)
        (.seq (.ops [⟨(some 65), .mov (.t 0), none, false, []⟩,
          ⟨(some 66), .mov (.t 8), none, false, []⟩,
          ⟨(some 67), .bin .none .add (.t 66) (.c (.int .i64 1)), none, false, []⟩,
          ⟨(some 68), .mov (.t 9), none, false, []⟩,
          ⟨(some 69), .slice 0 (.t 65) (some (.t 67)) (some (.t 68)), none, false, []⟩,
          ⟨(some 70), .mov (.t 6), none, false, []⟩,
          ⟨(some 71), .call f_internal_stringslite_IndexByte [(.t 69), (.t 70)], none, false, []⟩,
          ⟨(some 11), .mov (.t 71), none, false, []⟩] none [0, 1, 5, 6, 7, 8, 9, 10, 11])
        (.seq (.seq (.ops [⟨(some 72), .mov (.t 11), none, false, []⟩,
          ⟨(some 73), .bin .none .lss (.t 72) (.c (.int .i64 0)), none, false, []⟩] none [0, 1, 5, 6, 7, 8, 9, 10, 11, 73])
        (.cond (.t 73)
          (.seq (.ops [⟨(some 4), .mov (.c (.int .i64 (-1))), none, false, []⟩] none [4])
          .ret)
          .skip))
        (.ops [⟨(some 74), .mov (.t 8), none, false, []⟩,
          ⟨(some 75), .mov (.t 11), none, false, []⟩,
          ⟨(some 76), .bin .none .add (.t 75) (.c (.int .i64 1)), none, false, []⟩,
          ⟨(some 77), .bin .none .add (.t 74) (.t 76), none, false, []⟩,
          ⟨(some 8), .mov (.t 77), none, false, []⟩] none [0, 1, 5, 6, 7, 8, 9, 10])))
        .skip))
    (.seq (.seq (.ops [⟨(some 78), .mov (.t 0), none, false, []⟩,
      ⟨(some 79), .mov (.t 8), none, false, []⟩,
      ⟨(some 80), .bin .none .add (.t 79) (.c (.int .i64 1)), none, false, []⟩,
      ⟨(some 81), .index 1 none false (.t 78) (.t 80), none, false, []⟩,
      ⟨(some 82), .mov (.t 7), none, false, []⟩,
      ⟨(some 83), .bin .none .eql (.t 81) (.t 82), none, false, []⟩,
      ⟨(some 84), .mov (.t 83), none, true, []⟩,
      ⟨(some 85), .mov (.t 0), (some (84, true)), false, []⟩,
      ⟨(some 86), .mov (.t 8), (some (84, true)), false, []⟩,
      ⟨(some 87), .mov (.t 8), (some (84, true)), false, []⟩,
      ⟨(some 88), .mov (.t 5), (some (84, true)), false, []⟩,
      ⟨(some 89), .bin .none .add (.t 87) (.t 88), (some (84, true)), false, []⟩,
      ⟨(some 90), .slice 0 (.t 85) (some (.t 86)) (some (.t 89)), (some (84, true)), false, []⟩,
      ⟨(some 91), .mov (.t 1), (some (84, true)), false, []⟩,
      ⟨(some 92), .bin .none .eql (.t 90) (.t 91), (some (84, true)), false, []⟩,
      ⟨(some 93), .pick (.t 84) (.t 92) (.c (.bool false)), none, false, []⟩] none [0, 1, 5, 6, 7, 8, 9, 10, 93])
    (.cond (.t 93)
      (.seq (.ops [⟨(some 94), .mov (.t 8), none, false, []⟩,
        ⟨(some 4), .mov (.t 94), none, false, []⟩] none [4])
      .ret)
      .skip))
    (.seq (.ops [⟨(some 95), .mov (.t 8), none, false, []⟩,
      ⟨(some 96), .bin .none .add (.t 95) (.c (.int .i64 1)), none, false, []⟩,
      ⟨(some 8), .mov (.t 96), none, false, []⟩] none [0, 1, 5, 6, 7, 8, 9, 10])
    (.seq (.ops [⟨(some 97), .mov (.t 10), none, false, []⟩,
      ⟨(some 98), .bin .none .add (.t 97) (.c (.int .i64 1)), none, false, []⟩,
      ⟨(some 10), .mov (.t 98), none, false, []⟩] none [0, 1, 5, 6, 7, 8, 9, 10])
    (.seq (.ops [⟨(some 99), .mov (.t 5), none, false, []⟩,
      ⟨(some 100), .bad, none, false, []⟩,
      ⟨(some 101), .bin .none .leq (.t 99) (.t 100), none, false, []⟩,
      ⟨(some 102), .mov (.t 101), none, true, []⟩,
      ⟨(some 103), .mov (.t 10), (some (102, true)), false, []⟩,
      ⟨(some 104), .mov (.t 8), (some (102, true)), false, []⟩,
      ⟨(some 105), .call f_internal_bytealg_Cutover [(.t 104)], (some (102, true)), false, []⟩,
      ⟨(some 106), .bin .none .gtr (.t 103) (.t 105), (some (102, true)), false, []⟩,
      ⟨(some 107), .pick (.t 102) (.t 106) (.c (.bool false)), none, false, []⟩] none [0, 1, 5, 6, 7, 8, 9, 10, 107])
    (.cond (.t 107)
      (.seq (.ops [⟨(some 108), .mov (.t 0), none, false, []⟩,
        ⟨(some 109), .mov (.t 8), none, false, []⟩,
        ⟨(some 110), .slice 0 (.t 108) (some (.t 109)) none, none, false, []⟩,
        ⟨(some 111), .mov (.t 1), none, false, []⟩,
        ⟨(some 112), .bad, none, false, []⟩,
        ⟨(some 12), .mov (.t 112), none, false, []⟩] none [8, 12])
      (.seq (.seq (.ops [⟨(some 113), .mov (.t 12), none, false, []⟩,
        ⟨(some 114), .bin .none .geq (.t 113) (.c (.int .i64 0)), none, false, []⟩] none [8, 12, 114])
      (.cond (.t 114)
        (.seq (.ops [⟨(some 115), .mov (.t 12), none, false, []⟩,
          ⟨(some 116), .mov (.t 8), none, false, []⟩,
          ⟨(some 117), .bin .none .add (.t 115) (.t 116), none, false, []⟩,
          ⟨(some 4), .mov (.t 117), none, false, []⟩] none [4])
        .ret)
        .skip))
      (.seq (.ops [⟨(some 4), .mov (.c (.int .i64 (-1))), none, false, []⟩] none [4])
      .ret)))
      (.seq (.ops [⟨(some 118), .mov (.t 5), none, false, []⟩,
        ⟨(some 119), .bad, none, false, []⟩,
        ⟨(some 120), .bin .none .gtr (.t 118) (.t 119), none, false, []⟩,
        ⟨(some 121), .mov (.t 120), none, true, []⟩,
        ⟨(some 122), .mov (.t 10), (some (121, true)), false, []⟩,
        ⟨(some 123), .mov (.t 8), (some (121, true)), false, []⟩,
        ⟨(some 124), .bin .none .shr (.t 123) (.c (.int .u64 4)), (some (121, true)), false, []⟩,
        ⟨(some 125), .bin .none .add (.c (.int .i64 4)) (.t 124), (some (121, true)), false, []⟩,
        ⟨(some 126), .bin .none .geq (.t 122) (.t 125), (some (121, true)), false, []⟩,
        ⟨(some 127), .pick (.t 121) (.t 126) (.c (.bool false)), none, false, []⟩,
        ⟨(some 128), .mov (.t 127), none, true, []⟩,
        ⟨(some 129), .mov (.t 8), (some (128, true)), false, []⟩,
        ⟨(some 130), .mov (.t 9), (some (128, true)), false, []⟩,
        ⟨(some 131), .bin .none .lss (.t 129) (.t 130), (some (128, true)), false, []⟩,
        ⟨(some 132), .pick (.t 128) (.t 131) (.c (.bool false)), none, false, []⟩] none [0, 1, 5, 6, 7, 8, 9, 10, 132])
      (.cond (.t 132)
        (.seq (.ops [⟨(some 133), .mov (.t 0), none, false, []⟩,
          ⟨(some 134), .mov (.t 8), none, false, []⟩,
          ⟨(some 135), .slice 0 (.t 133) (some (.t 134)) none, none, false, []⟩,
          ⟨(some 136), .mov (.t 1), none, false, []⟩,
          ⟨(some 137), .call f_internal_bytealg_IndexRabinKarp_string_ [(.t 135), (.t 136)], none, false, []⟩,
          ⟨(some 13), .mov (.t 137), none, false, []⟩] none [8, 13])
        (.seq (.seq (.ops [⟨(some 138), .mov (.t 13), none, false, []⟩,
          ⟨(some 139), .bin .none .lss (.t 138) (.c (.int .i64 0)), none, false, []⟩] none [8, 13, 139])
        (.cond (.t 139)
          (.seq (.ops [⟨(some 4), .mov (.c (.int .i64 (-1))), none, false, []⟩] none [4])
          .ret)
          .skip))
        (.seq (.ops [⟨(some 140), .mov (.t 8), none, false, []⟩,
          ⟨(some 141), .mov (.t 13), none, false, []⟩,
          ⟨(some 142), .bin .none .add (.t 140) (.t 141), none, false, []⟩,
          ⟨(some 4), .mov (.t 142), none, false, []⟩] none [4])
        .ret)))
        .skip))))))))))))
  (.seq (.ops [⟨(some 4), .mov (.c (.int .i64 (-1))), none, false, []⟩] none [4])
  .ret))))))))))
def internal_stringslite_Index_r : List RRes := [.tmp 4]
def internal_stringslite_Index_hi : Hi := ⟨[], [(0, "s"), (1, "substr"), (2, "s"), (3, "substr"), (5, "n"), (6, "c0"), (7, "c1"), (8, "i"), (9, "t"), (10, "fails"), (11, "o"), (12, "r"), (13, "j")]⟩
def internal_stringslite_Index_an : An := (.seq .d (.seq .d (.seq .d (.seq .d (.seq .d (.seq .d (.seq .d (.seq .d (.seq (.loop [] [] [] .d) .d)))))))))
def internal_stringslite_Index_fi : Fi := ⟨143, internal_stringslite_Index_c, internal_stringslite_Index_r, internal_stringslite_Index_an, internal_stringslite_Index_hi, none⟩
theorem internal_stringslite_Index_ok : FiOk Tryd.prog f_internal_stringslite_Index internal_stringslite_Index_fi :=
  ⟨fun _ => by kernel_rfl, fun _ h hlen => fun_sound (by kernel_rfl) (fn := Tryd.f45) (draw_sound _ _) Tryd.func45 rfl (by kernel_rfl : comp Tryd.prog 143 _ internal_stringslite_Index_c = some internal_stringslite_Index_c) (by kernel_rfl : cRes Tryd.prog Tryd.f45.results.toList = some internal_stringslite_Index_r) hlen h, fun _ h => nomatch h⟩

/-- internal/stringslite.IndexByte: slots [0 s, 1 c, 2 s, 3 c] -/
def internal_stringslite_IndexByte_c : SCode :=
  (.seq (.ops [⟨(some 4), .mov (.c (.int .i64 0)), none, false, []⟩] none [0, 1])
  (.seq (.ops [⟨(some 5), .mov (.t 0), none, false, []⟩,
    ⟨(some 6), .mov (.t 1), none, false, []⟩,
    ⟨(some 7), .ext .idxb [(.t 5), (.t 6)], none, false, []⟩,
    ⟨(some 4), .mov (.t 7), none, false, []⟩] none [4])
  .ret))
def internal_stringslite_IndexByte_r : List RRes := [.tmp 4]
def internal_stringslite_IndexByte_hi : Hi := ⟨[], [(0, "s"), (1, "c"), (2, "s"), (3, "c")]⟩
def internal_stringslite_IndexByte_an : An := .d
def internal_stringslite_IndexByte_fi : Fi := ⟨8, internal_stringslite_IndexByte_c, internal_stringslite_IndexByte_r, internal_stringslite_IndexByte_an, internal_stringslite_IndexByte_hi, none⟩
theorem internal_stringslite_IndexByte_ok : FiOk Tryd.prog f_internal_stringslite_IndexByte internal_stringslite_IndexByte_fi :=
  ⟨fun _ => by kernel_rfl, fun _ h hlen => fun_sound (by kernel_rfl) (fn := Tryd.f43) (draw_sound _ _) Tryd.func43 rfl (by kernel_rfl : comp Tryd.prog 8 _ internal_stringslite_IndexByte_c = some internal_stringslite_IndexByte_c) (by kernel_rfl : cRes Tryd.prog Tryd.f43.results.toList = some internal_stringslite_IndexByte_r) hlen h, fun _ h => nomatch h⟩

end Go.Proofs.YtakkifkpihdcnaaDoor.P
