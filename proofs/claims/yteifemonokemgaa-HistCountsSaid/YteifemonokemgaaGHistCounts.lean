/- The functions' simplified code, printed by a program of the claim's author; each is checked against the program's own code. Conditions: none. -/
import Derived.Test.YteifemonokemgaaProg
import Derived.Test.YteifemonokemgaaVyM
set_option linter.unusedVariables false
set_option maxRecDepth 100000
namespace Go.Proofs.Yteifemonokemgaa
open Go.Vc
abbrev f_gosem_cut_init : Nat := 2
abbrev f_law_HistPlays : Nat := 3
abbrev f_law_HistCounts : Nat := 4
abbrev f_hist_Play : Nat := 5
abbrev f_ref_HistPlayed : Nat := 6
abbrev f_law_sameTexts : Nat := 7
abbrev f_law_sameCodes : Nat := 8
abbrev f_hist_Counts : Nat := 9
abbrev f_hist_play : Nat := 10
abbrev f_ref_EditFault : Nat := 11
abbrev f_ref_editMade : Nat := 12
abbrev f___hist_History__Counts : Nat := 13
abbrev f_hist_New : Nat := 14
abbrev f___hist_History__Deed : Nat := 15
abbrev f___hist_History__make : Nat := 16
abbrev f_hist_pop : Nat := 17
abbrev f___hist_History__change : Nat := 18
abbrev f_edit_Check : Nat := 19
abbrev f_edit_Undo : Nat := 20
abbrev f_edit_Made : Nat := 21

/-- fustian/edit.Check: slots [0 size, 1 e, 2 size, 3 e] -/
def edit_Check_c : SCode :=
  (.seq (.ops [⟨(some 3), .box 0 (.t 1), none, false, []⟩,
    ⟨(some 4), .mov (.c (.int .i64 0)), none, false, []⟩] none [0, 3])
  (.seq (.block 0 (.seq (.ops [⟨(some 6), .mov (.t 0), none, false, []⟩,
    ⟨(some 7), .bin .none .lss (.t 6) (.c (.int .i64 0)), none, false, []⟩,
    ⟨(some 8), .mov (.t 7), none, true, []⟩,
    ⟨(some 9), .mov (.t 0), (some (8, false)), false, []⟩,
    ⟨(some 10), .bin .none .gtr (.t 9) (.c (.int .i64 600)), (some (8, false)), false, []⟩,
    ⟨(some 11), .pick (.t 8) (.c (.bool true)) (.t 10), none, false, []⟩,
    ⟨(some 12), .mov (.t 11), none, true, []⟩,
    ⟨(some 13), .faddr 0 (.t 3), (some (12, false)), false, []⟩,
    ⟨(some 14), .load 1 false (.t 13), (some (12, false)), false, []⟩,
    ⟨(some 15), .bin .none .lss (.t 14) (.c (.int .i64 0)), (some (12, false)), false, []⟩,
    ⟨(some 16), .pick (.t 12) (.c (.bool true)) (.t 15), none, false, []⟩,
    ⟨(some 17), .mov (.t 16), none, true, []⟩,
    ⟨(some 18), .faddr 0 (.t 3), (some (17, false)), false, []⟩,
    ⟨(some 19), .load 1 false (.t 18), (some (17, false)), false, []⟩,
    ⟨(some 20), .mov (.t 0), (some (17, false)), false, []⟩,
    ⟨(some 21), .bin .none .gtr (.t 19) (.t 20), (some (17, false)), false, []⟩,
    ⟨(some 22), .pick (.t 17) (.c (.bool true)) (.t 21), none, false, []⟩,
    ⟨(some 23), .mov (.t 22), none, true, []⟩,
    ⟨(some 24), .faddr 1 (.t 3), (some (23, false)), false, []⟩,
    ⟨(some 25), .load 1 false (.t 24), (some (23, false)), false, []⟩,
    ⟨(some 26), .bin .none .lss (.t 25) (.c (.int .i64 0)), (some (23, false)), false, []⟩,
    ⟨(some 27), .pick (.t 23) (.c (.bool true)) (.t 26), none, false, []⟩,
    ⟨(some 28), .mov (.t 27), none, true, []⟩,
    ⟨(some 29), .faddr 1 (.t 3), (some (28, false)), false, []⟩,
    ⟨(some 30), .load 1 false (.t 29), (some (28, false)), false, []⟩,
    ⟨(some 31), .mov (.t 0), (some (28, false)), false, []⟩,
    ⟨(some 32), .faddr 0 (.t 3), (some (28, false)), false, []⟩,
    ⟨(some 33), .load 1 false (.t 32), (some (28, false)), false, []⟩,
    ⟨(some 34), .bin .none .sub (.t 31) (.t 33), (some (28, false)), false, []⟩,
    ⟨(some 35), .bin .none .gtr (.t 30) (.t 34), (some (28, false)), false, []⟩,
    ⟨(some 36), .pick (.t 28) (.c (.bool true)) (.t 35), none, false, []⟩,
    ⟨(some 5), .mov (.t 36), none, false, []⟩] none [0, 3, 5])
  (.cond (.t 5)
    (.seq (.ops [⟨(some 4), .mov (.c (.int .i64 2)), none, false, []⟩] none [4])
    .ret)
    (.seq (.ops [⟨(some 38), .mov (.t 0), none, false, []⟩,
      ⟨(some 39), .faddr 1 (.t 3), none, false, []⟩,
      ⟨(some 40), .load 1 false (.t 39), none, false, []⟩,
      ⟨(some 41), .bin .none .sub (.t 38) (.t 40), none, false, []⟩,
      ⟨(some 42), .faddr 2 (.t 3), none, false, []⟩,
      ⟨(some 43), .load 1 false (.t 42), none, false, []⟩,
      ⟨(some 44), .len true (.t 43), none, false, []⟩,
      ⟨(some 45), .bin .none .add (.t 41) (.t 44), none, false, []⟩,
      ⟨(some 46), .bin .none .gtr (.t 45) (.c (.int .i64 600)), none, false, []⟩,
      ⟨(some 37), .mov (.t 46), none, false, []⟩] none [37])
    (.cond (.t 37)
      (.seq (.ops [⟨(some 4), .mov (.c (.int .i64 1)), none, false, []⟩] none [4])
      .ret)
      .skip)))))
  (.seq (.ops [⟨(some 4), .mov (.c (.int .i64 0)), none, false, []⟩] none [4])
  .ret)))
def edit_Check_r : List RRes := [.tmp 4]
def edit_Check_hi : Hi := ⟨[(3, (.st (.cons (.int .i64) (.cons (.int .i64) (.cons .str .nil)))))], [(0, "size"), (1, "e"), (2, "size"), (3, "e")]⟩
def edit_Check_an : An := .d
def edit_Check_fi : Fi := ⟨47, edit_Check_c, edit_Check_r, edit_Check_an, edit_Check_hi, none⟩
theorem edit_Check_ok : FiOk Try.prog f_edit_Check edit_Check_fi :=
  ⟨fun _ => by kernel_rfl, fun _ h hlen => fun_sound (by kernel_rfl) (fn := Try.f19) (draw_sound _ _) Try.func19 rfl (by kernel_rfl : comp Try.prog 47 _ edit_Check_c = some edit_Check_c) (by kernel_rfl : cRes Try.prog Try.f19.results.toList = some edit_Check_r) hlen h, fun _ h => nomatch h⟩

/-- fustian/edit.Made: slots [0 text, 1 e, 2 text, 3 e] -/
def edit_Made_c : SCode :=
  (.seq (.ops [⟨(some 3), .box 0 (.t 1), none, false, []⟩,
    ⟨(some 4), .mov (.c (.str [])), none, false, []⟩] none [0, 3])
  (.seq (.ops [⟨(some 5), .mov (.t 0), none, false, []⟩,
    ⟨(some 6), .faddr 0 (.t 3), none, false, []⟩,
    ⟨(some 7), .load 1 false (.t 6), none, false, []⟩,
    ⟨(some 8), .slice 0 (.t 5) none (some (.t 7)), none, false, []⟩,
    ⟨(some 9), .faddr 2 (.t 3), none, false, []⟩,
    ⟨(some 10), .load 1 false (.t 9), none, false, []⟩,
    ⟨(some 11), .bin .none .add (.t 8) (.t 10), none, false, []⟩,
    ⟨(some 12), .mov (.t 0), none, false, []⟩,
    ⟨(some 13), .faddr 0 (.t 3), none, false, []⟩,
    ⟨(some 14), .load 1 false (.t 13), none, false, []⟩,
    ⟨(some 15), .faddr 1 (.t 3), none, false, []⟩,
    ⟨(some 16), .load 1 false (.t 15), none, false, []⟩,
    ⟨(some 17), .bin .none .add (.t 14) (.t 16), none, false, []⟩,
    ⟨(some 18), .slice 0 (.t 12) (some (.t 17)) none, none, false, []⟩,
    ⟨(some 19), .bin .none .add (.t 11) (.t 18), none, false, []⟩,
    ⟨(some 4), .mov (.t 19), none, false, []⟩] (some (0, 0, [0, 1, 2, 3, 4, 5, 6, 7, 8, 9, 10, 11, 12, 13, 14, 15])) [4])
  .ret))
def edit_Made_r : List RRes := [.tmp 4]
def edit_Made_hi : Hi := ⟨[(3, (.st (.cons (.int .i64) (.cons (.int .i64) (.cons .str .nil)))))], [(0, "text"), (1, "e"), (2, "text"), (3, "e")]⟩
def edit_Made_an : An := .d
def edit_Made_fi : Fi := ⟨20, edit_Made_c, edit_Made_r, edit_Made_an, edit_Made_hi, none⟩
theorem edit_Made_ok : FiOk Try.prog f_edit_Made edit_Made_fi :=
  ⟨fun _ => by kernel_rfl, fun _ h hlen => fun_sound (by kernel_rfl) (fn := Try.f21) (draw_sound _ _) Try.func21 rfl (by kernel_rfl : comp Try.prog 20 _ edit_Made_c = some edit_Made_c) (by kernel_rfl : cRes Try.prog Try.f21.results.toList = some edit_Made_r) hlen h, fun _ h => nomatch h⟩

/-- fustian/edit.Undo: slots [0 text, 1 e, 2 text, 3 e] -/
def edit_Undo_c : SCode :=
  (.seq (.ops [⟨(some 3), .box 0 (.t 1), none, false, []⟩,
    ⟨(some 4), .alloc 0 [(.int .i64 0), (.int .i64 0), (.str [])], none, false, []⟩] none [0, 3, 4])
  (.seq (.ops [⟨(some 5), .faddr 0 (.t 3), none, false, []⟩,
    ⟨(some 6), .load 1 false (.t 5), none, false, []⟩,
    ⟨(some 7), .faddr 2 (.t 3), none, false, []⟩,
    ⟨(some 8), .load 1 false (.t 7), none, false, []⟩,
    ⟨(some 9), .len true (.t 8), none, false, []⟩,
    ⟨(some 10), .mov (.t 0), none, false, []⟩,
    ⟨(some 11), .faddr 0 (.t 3), none, false, []⟩,
    ⟨(some 12), .load 1 false (.t 11), none, false, []⟩,
    ⟨(some 13), .faddr 0 (.t 3), none, false, []⟩,
    ⟨(some 14), .load 1 false (.t 13), none, false, []⟩,
    ⟨(some 15), .faddr 1 (.t 3), none, false, []⟩,
    ⟨(some 16), .load 1 false (.t 15), none, false, []⟩,
    ⟨(some 17), .bin .none .add (.t 14) (.t 16), none, false, []⟩,
    ⟨(some 18), .slice 0 (.t 10) (some (.t 12)) (some (.t 17)), none, false, []⟩,
    ⟨(some 19), .build [(.int .i64 0), (.int .i64 0), (.str [])] [(0, 1, (.t 6)), (1, 1, (.t 9)), (2, 1, (.t 18))], none, false, []⟩,
    ⟨none, .store 3 (.t 4) (.t 19), none, false, []⟩] (some (0, 0, [0, 1, 2, 3, 4, 5, 6, 7, 8, 9, 10, 11, 12, 13, 14, 15])) [4])
  .ret))
def edit_Undo_r : List RRes := [.cell 4 3 true]
def edit_Undo_hi : Hi := ⟨[(3, (.st (.cons (.int .i64) (.cons (.int .i64) (.cons .str .nil))))), (4, (.st (.cons (.int .i64) (.cons (.int .i64) (.cons .str .nil)))))], [(0, "text"), (1, "e"), (2, "text"), (3, "e")]⟩
def edit_Undo_an : An := .d
def edit_Undo_fi : Fi := ⟨20, edit_Undo_c, edit_Undo_r, edit_Undo_an, edit_Undo_hi, none⟩
theorem edit_Undo_ok : FiOk Try.prog f_edit_Undo edit_Undo_fi :=
  ⟨fun _ => by kernel_rfl, fun _ h hlen => fun_sound (by kernel_rfl) (fn := Try.f20) (draw_sound _ _) Try.func20 rfl (by kernel_rfl : comp Try.prog 20 _ edit_Undo_c = some edit_Undo_c) (by kernel_rfl : cRes Try.prog Try.f20.results.toList = some edit_Undo_r) hlen h, fun _ h => nomatch h⟩

/-- fustian/hist.Counts: slots [0 text, 1 l, 2 text, 3 l, 4 undo, 5 redo, 6 e, 7 h, 8 _, 9 _] -/
def hist_Counts_c : SCode :=
  (.seq (.ops [⟨(some 4), .mov (.c (.int .i64 0)), none, false, []⟩,
    ⟨(some 5), .mov (.c (.int .i64 0)), none, false, []⟩,
    ⟨(some 6), .mov (.c (.int .i64 0)), none, false, []⟩] none [0, 1])
  (.seq (.ops [⟨(some 11), .mov (.t 0), none, false, []⟩,
    ⟨(some 12), .mov (.t 1), none, false, []⟩,
    ⟨(some 13), .call f_hist_play [(.t 11), (.t 12)], none, false, []⟩,
    ⟨(some 10), .mov (.t 13), none, false, []⟩,
    ⟨(some 14), .extract (.t 10) 0, none, false, []⟩,
    ⟨(some 15), .extract (.t 10) 1, none, false, []⟩,
    ⟨(some 16), .extract (.t 10) 2, none, false, []⟩,
    ⟨(some 17), .extract (.t 10) 3, none, false, []⟩,
    ⟨(some 7), .mov (.t 14), none, false, []⟩,
    ⟨(some 8), .mov (.t 15), none, false, []⟩,
    ⟨(some 9), .mov (.t 16), none, false, []⟩,
    ⟨(some 6), .mov (.t 17), none, false, []⟩] none [6, 7])
  (.seq (.seq (.ops [⟨(some 18), .mov (.t 6), none, false, []⟩,
    ⟨(some 19), .bin .none .neq (.t 18) (.c (.int .i64 0)), none, false, []⟩] none [6, 7, 19])
  (.cond (.t 19)
    (.seq (.ops [⟨(some 20), .mov (.t 6), none, false, []⟩,
      ⟨(some 4), .mov (.c (.int .i64 0)), none, false, []⟩,
      ⟨(some 5), .mov (.c (.int .i64 0)), none, false, []⟩,
      ⟨(some 6), .mov (.t 20), none, false, []⟩] none [4, 5, 6])
    .ret)
    .skip))
  (.seq (.ops [⟨(some 22), .mov (.t 7), none, false, []⟩,
    ⟨(some 23), .call f___hist_History__Counts [(.t 22)], none, false, []⟩,
    ⟨(some 21), .mov (.t 23), none, false, []⟩,
    ⟨(some 24), .extract (.t 21) 0, none, false, []⟩,
    ⟨(some 25), .extract (.t 21) 1, none, false, []⟩,
    ⟨(some 4), .mov (.t 24), none, false, []⟩,
    ⟨(some 5), .mov (.t 25), none, false, []⟩] none [4, 5])
  (.seq (.ops [⟨(some 26), .mov (.t 4), none, false, []⟩,
    ⟨(some 27), .mov (.t 5), none, false, []⟩,
    ⟨(some 4), .mov (.t 26), none, false, []⟩,
    ⟨(some 5), .mov (.t 27), none, false, []⟩,
    ⟨(some 6), .mov (.c (.int .i64 0)), none, false, []⟩] none [4, 5, 6])
  .ret)))))
def hist_Counts_r : List RRes := [.tmp 4, .tmp 5, .tmp 6]
def hist_Counts_hi : Hi := ⟨[(14, (.st (.cons .str (.cons (.sl (.st (.cons (.sl (.st (.cons (.int .i64) (.cons (.int .i64) (.cons .str .nil))))) (.cons (.sl (.st (.cons (.int .i64) (.cons (.int .i64) (.cons .str .nil))))) .nil)))) (.cons (.sl (.st (.cons (.sl (.st (.cons (.int .i64) (.cons (.int .i64) (.cons .str .nil))))) (.cons (.sl (.st (.cons (.int .i64) (.cons (.int .i64) (.cons .str .nil))))) .nil)))) (.cons .bool .nil)))))), (7, (.st (.cons .str (.cons (.sl (.st (.cons (.sl (.st (.cons (.int .i64) (.cons (.int .i64) (.cons .str .nil))))) (.cons (.sl (.st (.cons (.int .i64) (.cons (.int .i64) (.cons .str .nil))))) .nil)))) (.cons (.sl (.st (.cons (.sl (.st (.cons (.int .i64) (.cons (.int .i64) (.cons .str .nil))))) (.cons (.sl (.st (.cons (.int .i64) (.cons (.int .i64) (.cons .str .nil))))) .nil)))) (.cons .bool .nil)))))), (22, (.st (.cons .str (.cons (.sl (.st (.cons (.sl (.st (.cons (.int .i64) (.cons (.int .i64) (.cons .str .nil))))) (.cons (.sl (.st (.cons (.int .i64) (.cons (.int .i64) (.cons .str .nil))))) .nil)))) (.cons (.sl (.st (.cons (.sl (.st (.cons (.int .i64) (.cons (.int .i64) (.cons .str .nil))))) (.cons (.sl (.st (.cons (.int .i64) (.cons (.int .i64) (.cons .str .nil))))) .nil)))) (.cons .bool .nil))))))], [(0, "text"), (1, "l"), (2, "text"), (3, "l"), (4, "undo"), (5, "redo"), (6, "e"), (7, "h")]⟩
def hist_Counts_an : An := .d
def hist_Counts_fi : Fi := ⟨28, hist_Counts_c, hist_Counts_r, hist_Counts_an, hist_Counts_hi, none⟩
theorem hist_Counts_ok : FiOk Try.prog f_hist_Counts hist_Counts_fi :=
  ⟨fun _ => by kernel_rfl, fun _ h hlen => fun_sound (by kernel_rfl) (fn := Try.f9) (draw_sound _ _) Try.func9 rfl (by kernel_rfl : comp Try.prog 28 _ hist_Counts_c = some hist_Counts_c) (by kernel_rfl : cRes Try.prog Try.f9.results.toList = some hist_Counts_r) hlen h, fun _ h => nomatch h⟩

/-- fustian/fustianref.EditFault: slots [0 size, 1 e, 2 size, 3 e] -/
def ref_EditFault_c : SCode :=
  (.seq (.ops [⟨(some 3), .box 0 (.t 1), none, false, []⟩,
    ⟨(some 4), .mov (.c (.int .i64 0)), none, false, []⟩] none [0, 3])
  (.seq (.seq (.ops [⟨(some 5), .mov (.t 0), none, false, []⟩,
    ⟨(some 6), .bin .none .lss (.t 5) (.c (.int .i64 0)), none, false, []⟩,
    ⟨(some 7), .mov (.t 6), none, true, []⟩,
    ⟨(some 8), .mov (.t 0), (some (7, false)), false, []⟩,
    ⟨(some 9), .bin .none .gtr (.t 8) (.c (.int .i64 600)), (some (7, false)), false, []⟩,
    ⟨(some 10), .pick (.t 7) (.c (.bool true)) (.t 9), none, false, []⟩,
    ⟨(some 11), .mov (.t 10), none, true, []⟩,
    ⟨(some 12), .faddr 0 (.t 3), (some (11, false)), false, []⟩,
    ⟨(some 13), .load 1 false (.t 12), (some (11, false)), false, []⟩,
    ⟨(some 14), .bin .none .lss (.t 13) (.c (.int .i64 0)), (some (11, false)), false, []⟩,
    ⟨(some 15), .pick (.t 11) (.c (.bool true)) (.t 14), none, false, []⟩,
    ⟨(some 16), .mov (.t 15), none, true, []⟩,
    ⟨(some 17), .faddr 1 (.t 3), (some (16, false)), false, []⟩,
    ⟨(some 18), .load 1 false (.t 17), (some (16, false)), false, []⟩,
    ⟨(some 19), .bin .none .lss (.t 18) (.c (.int .i64 0)), (some (16, false)), false, []⟩,
    ⟨(some 20), .pick (.t 16) (.c (.bool true)) (.t 19), none, false, []⟩,
    ⟨(some 21), .mov (.t 20), none, true, []⟩,
    ⟨(some 22), .faddr 0 (.t 3), (some (21, false)), false, []⟩,
    ⟨(some 23), .load 1 false (.t 22), (some (21, false)), false, []⟩,
    ⟨(some 24), .mov (.t 0), (some (21, false)), false, []⟩,
    ⟨(some 25), .bin .none .gtr (.t 23) (.t 24), (some (21, false)), false, []⟩,
    ⟨(some 26), .pick (.t 21) (.c (.bool true)) (.t 25), none, false, []⟩,
    ⟨(some 27), .mov (.t 26), none, true, []⟩,
    ⟨(some 28), .faddr 1 (.t 3), (some (27, false)), false, []⟩,
    ⟨(some 29), .load 1 false (.t 28), (some (27, false)), false, []⟩,
    ⟨(some 30), .mov (.t 0), (some (27, false)), false, []⟩,
    ⟨(some 31), .bin .none .gtr (.t 29) (.t 30), (some (27, false)), false, []⟩,
    ⟨(some 32), .pick (.t 27) (.c (.bool true)) (.t 31), none, false, []⟩,
    ⟨(some 33), .mov (.t 32), none, true, []⟩,
    ⟨(some 34), .faddr 0 (.t 3), (some (33, false)), false, []⟩,
    ⟨(some 35), .load 1 false (.t 34), (some (33, false)), false, []⟩,
    ⟨(some 36), .faddr 1 (.t 3), (some (33, false)), false, []⟩,
    ⟨(some 37), .load 1 false (.t 36), (some (33, false)), false, []⟩,
    ⟨(some 38), .bin .none .add (.t 35) (.t 37), (some (33, false)), false, []⟩,
    ⟨(some 39), .mov (.t 0), (some (33, false)), false, []⟩,
    ⟨(some 40), .bin .none .gtr (.t 38) (.t 39), (some (33, false)), false, []⟩,
    ⟨(some 41), .pick (.t 33) (.c (.bool true)) (.t 40), none, false, []⟩] none [0, 3, 41])
  (.cond (.t 41)
    (.seq (.ops [⟨(some 4), .mov (.c (.int .i64 2)), none, false, []⟩] none [4])
    .ret)
    .skip))
  (.seq (.seq (.ops [⟨(some 42), .mov (.t 0), none, false, []⟩,
    ⟨(some 43), .faddr 2 (.t 3), none, false, []⟩,
    ⟨(some 44), .load 1 false (.t 43), none, false, []⟩,
    ⟨(some 45), .len true (.t 44), none, false, []⟩,
    ⟨(some 46), .bin .none .add (.t 42) (.t 45), none, false, []⟩,
    ⟨(some 47), .faddr 1 (.t 3), none, false, []⟩,
    ⟨(some 48), .load 1 false (.t 47), none, false, []⟩,
    ⟨(some 49), .bin .none .sub (.t 46) (.t 48), none, false, []⟩,
    ⟨(some 50), .bin .none .gtr (.t 49) (.c (.int .i64 600)), none, false, []⟩] none [50])
  (.cond (.t 50)
    (.seq (.ops [⟨(some 4), .mov (.c (.int .i64 1)), none, false, []⟩] none [4])
    .ret)
    .skip))
  (.seq (.ops [⟨(some 4), .mov (.c (.int .i64 0)), none, false, []⟩] none [4])
  .ret))))
def ref_EditFault_r : List RRes := [.tmp 4]
def ref_EditFault_hi : Hi := ⟨[(3, (.st (.cons (.int .i64) (.cons (.int .i64) (.cons .str .nil)))))], [(0, "size"), (1, "e"), (2, "size"), (3, "e")]⟩
def ref_EditFault_an : An := .d
def ref_EditFault_fi : Fi := ⟨51, ref_EditFault_c, ref_EditFault_r, ref_EditFault_an, ref_EditFault_hi, none⟩
theorem ref_EditFault_ok : FiOk Try.prog f_ref_EditFault ref_EditFault_fi :=
  ⟨fun _ => by kernel_rfl, fun _ h hlen => fun_sound (by kernel_rfl) (fn := Try.f11) (draw_sound _ _) Try.func11 rfl (by kernel_rfl : comp Try.prog 51 _ ref_EditFault_c = some ref_EditFault_c) (by kernel_rfl : cRes Try.prog Try.f11.results.toList = some ref_EditFault_r) hlen h, fun _ h => nomatch h⟩

/-- fustian/fustianref.editMade: slots [0 text, 1 e, 2 text, 3 e, 5 out, 6 i] -/
def ref_editMade_c : SCode :=
  (.seq (.ops [⟨(some 3), .box 0 (.t 1), none, false, []⟩,
    ⟨(some 4), .mov (.c (.str [])), none, false, []⟩] none [0, 3])
  (.seq (.ops [⟨(some 5), .mov (.c (.str [])), none, false, []⟩] none [0, 3, 5])
  (.seq (.seq (.ops [⟨(some 6), .mov (.c (.int .i64 0)), none, false, []⟩] none [0, 3, 5, 6])
  (.block 0 (.loop [0, 3] [5, 6] 1
    (.seq (.seq (.ops [⟨(some 7), .mov (.t 6), none, false, []⟩,
      ⟨(some 8), .mov (.t 0), none, false, []⟩,
      ⟨(some 9), .len true (.t 8), none, false, []⟩,
      ⟨(some 10), .bin .none .leq (.t 7) (.t 9), none, false, []⟩] none [0, 3, 5, 6, 10])
    (.cond (.t 10)
      .skip
      (.exit 0)))
    (.join [0, 3, 6] [5] 1 (.block 1 (.join [0, 3, 6] [5] 1 (.seq (.ops [⟨(some 13), .mov (.t 6), none, false, []⟩,
          ⟨(some 14), .faddr 0 (.t 3), none, false, []⟩,
          ⟨(some 15), .load 1 false (.t 14), none, false, []⟩,
          ⟨(some 16), .bin .none .eql (.t 13) (.t 15), none, false, []⟩] none [0, 3, 5, 6, 16])
        (.cond (.t 16)
          (.ops [⟨(some 17), .mov (.t 5), none, false, []⟩,
            ⟨(some 18), .faddr 2 (.t 3), none, false, []⟩,
            ⟨(some 19), .load 1 false (.t 18), none, false, []⟩,
            ⟨(some 20), .bin .none .add (.t 17) (.t 19), none, false, []⟩,
            ⟨(some 5), .mov (.t 20), none, false, []⟩] none [0, 3, 5, 6])
          .skip))
      (.seq (.ops [⟨(some 21), .mov (.t 6), none, false, []⟩,
        ⟨(some 22), .mov (.t 0), none, false, []⟩,
        ⟨(some 23), .len true (.t 22), none, false, []⟩,
        ⟨(some 24), .bin .none .lss (.t 21) (.t 23), none, false, []⟩,
        ⟨(some 25), .mov (.t 24), none, true, []⟩,
        ⟨(some 26), .mov (.t 6), (some (25, true)), false, []⟩,
        ⟨(some 27), .faddr 0 (.t 3), (some (25, true)), false, []⟩,
        ⟨(some 28), .load 1 false (.t 27), (some (25, true)), false, []⟩,
        ⟨(some 29), .bin .none .lss (.t 26) (.t 28), (some (25, true)), false, []⟩,
        ⟨(some 30), .mov (.t 29), (some (25, true)), true, []⟩,
        ⟨(some 31), .mov (.t 6), (some (30, false)), false, []⟩,
        ⟨(some 32), .faddr 0 (.t 3), (some (30, false)), false, []⟩,
        ⟨(some 33), .load 1 false (.t 32), (some (30, false)), false, []⟩,
        ⟨(some 34), .faddr 1 (.t 3), (some (30, false)), false, []⟩,
        ⟨(some 35), .load 1 false (.t 34), (some (30, false)), false, []⟩,
        ⟨(some 36), .bin .none .add (.t 33) (.t 35), (some (30, false)), false, []⟩,
        ⟨(some 37), .bin .none .geq (.t 31) (.t 36), (some (30, false)), false, []⟩,
        ⟨(some 38), .pick (.t 30) (.c (.bool true)) (.t 37), (some (25, true)), false, []⟩,
        ⟨(some 39), .pick (.t 25) (.t 38) (.c (.bool false)), none, false, []⟩] none [0, 3, 5, 6, 39])
      (.cond (.t 39)
        (.ops [⟨(some 40), .mov (.t 5), none, false, []⟩,
          ⟨(some 41), .mov (.t 0), none, false, []⟩,
          ⟨(some 42), .mov (.t 6), none, false, []⟩,
          ⟨(some 43), .mov (.t 6), none, false, []⟩,
          ⟨(some 44), .bin .none .add (.t 43) (.c (.int .i64 1)), none, false, []⟩,
          ⟨(some 45), .slice 0 (.t 41) (some (.t 42)) (some (.t 44)), none, false, []⟩,
          ⟨(some 46), .bin .none .add (.t 40) (.t 45), none, false, []⟩,
          ⟨(some 5), .mov (.t 46), none, false, []⟩] none [0, 3, 5, 6])
        .skip))))
    (.ops [⟨(some 11), .mov (.t 6), none, false, []⟩,
      ⟨(some 12), .bin .none .add (.t 11) (.c (.int .i64 1)), none, false, []⟩,
      ⟨(some 6), .mov (.t 12), none, false, []⟩] none [0, 3, 5, 6]))))))
  (.seq (.ops [⟨(some 47), .mov (.t 5), none, false, []⟩,
    ⟨(some 4), .mov (.t 47), none, false, []⟩] none [4])
  .ret))))
def ref_editMade_r : List RRes := [.tmp 4]
def ref_editMade_hi : Hi := ⟨[(3, (.st (.cons (.int .i64) (.cons (.int .i64) (.cons .str .nil)))))], [(0, "text"), (1, "e"), (2, "text"), (3, "e"), (5, "out"), (6, "i")]⟩
def ref_editMade_an : An := (.seq .d (.seq .d (.seq (.seq .d (.loop [] [] [] .d)) .d)))
def ref_editMade_fi : Fi := ⟨48, ref_editMade_c, ref_editMade_r, ref_editMade_an, ref_editMade_hi, none⟩
theorem ref_editMade_ok : FiOk Try.prog f_ref_editMade ref_editMade_fi :=
  ⟨fun _ => by kernel_rfl, fun _ h hlen => fun_sound (by kernel_rfl) (fn := Try.f12) (draw_sound _ _) Try.func12 rfl (by kernel_rfl : comp Try.prog 48 _ ref_editMade_c = some ref_editMade_c) (by kernel_rfl : cRes Try.prog Try.f12.results.toList = some ref_editMade_r) hlen h, fun _ h => nomatch h⟩

/-- fustian/fustianref.HistPlayed: slots [0 text, 1 l, 2 text, 3 l, 9 line, 10 at, 11 open, 12 texts, 13 codes, 14 _, 15 d, 16 e, 17 now, 18 made] -/
def ref_HistPlayed_c : SCode :=
  (.seq (.ops [⟨(some 4), .mov (.c .nils), none, false, []⟩,
    ⟨(some 5), .mov (.c .nils), none, false, []⟩,
    ⟨(some 6), .mov (.c (.int .i64 0)), none, false, []⟩,
    ⟨(some 7), .mov (.c (.int .i64 0)), none, false, []⟩,
    ⟨(some 8), .mov (.c (.int .i64 0)), none, false, []⟩] none [0, 1])
  (.seq (.seq (.ops [⟨(some 19), .mov (.t 0), none, false, []⟩,
    ⟨(some 20), .len true (.t 19), none, false, []⟩,
    ⟨(some 21), .bin .none .gtr (.t 20) (.c (.int .i64 600)), none, false, []⟩,
    ⟨(some 22), .mov (.t 21), none, true, []⟩,
    ⟨(some 23), .mov (.t 1), (some (22, false)), false, []⟩,
    ⟨(some 24), .len false (.t 23), (some (22, false)), false, []⟩,
    ⟨(some 25), .bin .none .gtr (.t 24) (.c (.int .i64 80)), (some (22, false)), false, []⟩,
    ⟨(some 26), .pick (.t 22) (.c (.bool true)) (.t 25), none, false, []⟩] none [0, 1, 26])
  (.cond (.t 26)
    (.seq (.ops [⟨(some 4), .mov (.c .nils), none, false, []⟩,
      ⟨(some 5), .mov (.c .nils), none, false, []⟩,
      ⟨(some 6), .mov (.c (.int .i64 0)), none, false, []⟩,
      ⟨(some 7), .mov (.c (.int .i64 0)), none, false, []⟩,
      ⟨(some 8), .mov (.c (.int .i64 1)), none, false, []⟩] none [4, 5, 6, 7, 8])
    .ret)
    .skip))
  (.seq (.ops [⟨(some 27), .mov (.t 0), none, false, []⟩,
    ⟨(some 28), .bslice false 1 1 [(.str [])] [(0, 1, (.t 27))], none, false, []⟩,
    ⟨(some 9), .mov (.t 28), none, false, []⟩] none [1, 9])
  (.seq (.ops [⟨(some 10), .mov (.c (.int .i64 0)), none, false, []⟩] none [1, 9, 10])
  (.seq (.ops [⟨(some 11), .mov (.c (.bool false)), none, false, []⟩] none [1, 9, 10, 11])
  (.seq (.ops [⟨(some 12), .newnil 1, none, false, []⟩] none [1, 9, 10, 11, 12])
  (.seq (.ops [⟨(some 13), .newnil 1, none, false, []⟩] none [1, 9, 10, 11, 12, 13])
  (.seq (.seq (.ops [⟨(some 29), .mov (.t 1), none, false, []⟩,
    ⟨(some 30), .len false (.t 29), none, false, []⟩,
    ⟨(some 31), .mov (.c (.int .i64 0)), none, false, []⟩] none [9, 10, 11, 12, 13, 29, 30, 31])
  (.block 0 (.loop [29, 30] [9, 10, 11, 12, 13, 31] 3
    (.seq (.ops [⟨(some 32), .bin .none .lss (.t 31) (.t 30), none, false, []⟩] none [9, 10, 11, 12, 13, 29, 30, 31, 32])
    (.seq (.cond (.t 32)
      .skip
      (.exit 0))
    (.seq (.block 1 (.seq (.ops [⟨(some 33), .iaddr 4 none (.t 29) (.t 31), none, false, []⟩,
      ⟨(some 34), .load 4 true (.t 33), none, false, []⟩,
      ⟨(some 15), .alloc 0 [(.int .i64 0), (.int .i64 0), (.int .i64 0), (.str [])], none, false, []⟩,
      ⟨none, .store 4 (.t 15) (.t 34), none, false, []⟩] none [9, 10, 11, 12, 13, 15, 29, 30, 31])
    (.seq (.ops [⟨(some 16), .mov (.c (.int .i64 0)), none, false, []⟩] none [9, 10, 11, 12, 13, 15, 16, 29, 30, 31])
    (.seq (.ops [⟨(some 35), .mov (.t 9), none, false, []⟩,
      ⟨(some 36), .mov (.t 10), none, false, []⟩,
      ⟨(some 37), .iaddr 1 none (.t 35) (.t 36), none, false, []⟩,
      ⟨(some 38), .load 1 false (.t 37), none, false, []⟩,
      ⟨(some 17), .mov (.t 38), none, false, []⟩] none [9, 10, 11, 12, 13, 15, 16, 17, 29, 30, 31])
    (.join [12, 13, 29, 30, 31] [9, 10, 11, 16] 5 (.seq (.ops [⟨(some 39), .faddr 0 (.t 15), none, false, []⟩,
        ⟨(some 40), .load 1 false (.t 39), none, false, []⟩] none [9, 10, 11, 12, 13, 15, 16, 17, 29, 30, 31, 40])
      (.block 2 (.seq (.ops [⟨(some 42), .bin .none .eql (.t 40) (.c (.int .i64 1)), none, false, []⟩,
        ⟨(some 41), .mov (.t 42), none, false, []⟩] none [9, 10, 11, 12, 13, 15, 16, 17, 29, 30, 31, 40, 41])
      (.cond (.t 41)
        (.seq (.seq (.ops [⟨(some 43), .mov (.t 17), none, false, []⟩,
          ⟨(some 44), .len true (.t 43), none, false, []⟩,
          ⟨(some 45), .faddr 1 (.t 15), none, false, []⟩,
          ⟨(some 46), .load 3 true (.t 45), none, false, []⟩,
          ⟨(some 47), .call f_ref_EditFault [(.t 44), (.t 46)], none, false, []⟩,
          ⟨(some 16), .mov (.t 47), none, false, []⟩] none [9, 10, 11, 12, 13, 15, 16, 17, 29, 30, 31])
        (.seq (.ops [⟨(some 48), .mov (.t 16), none, false, []⟩,
          ⟨(some 49), .bin .none .neq (.t 48) (.c (.int .i64 0)), none, false, []⟩] none [9, 10, 11, 12, 13, 15, 16, 17, 29, 30, 31, 49])
        (.cond (.t 49)
          (.exit 2)
          .skip)))
        (.seq (.ops [⟨(some 50), .mov (.t 9), none, false, []⟩,
          ⟨(some 51), .mov (.t 10), none, false, []⟩,
          ⟨(some 52), .bin .none .add (.t 51) (.c (.int .i64 1)), none, false, []⟩,
          ⟨(some 53), .slice 1 (.t 50) none (some (.t 52)), none, false, []⟩,
          ⟨(some 9), .mov (.t 53), none, false, []⟩] none [9, 10, 11, 12, 13, 15, 16, 17, 29, 30, 31])
        (.seq (.ops [⟨(some 54), .mov (.t 17), none, false, []⟩,
          ⟨(some 55), .faddr 1 (.t 15), none, false, []⟩,
          ⟨(some 56), .load 3 true (.t 55), none, false, []⟩,
          ⟨(some 57), .call f_ref_editMade [(.t 54), (.t 56)], none, false, []⟩,
          ⟨(some 18), .mov (.t 57), none, false, []⟩] none [9, 10, 11, 12, 13, 16, 18, 29, 30, 31])
        (.seq (.seq (.ops [⟨(some 58), .mov (.t 11), none, false, []⟩] none [9, 10, 11, 12, 13, 16, 18, 29, 30, 31, 58])
        (.cond (.t 58)
          (.seq (.ops [⟨(some 59), .mov (.t 9), none, false, []⟩,
            ⟨(some 60), .mov (.t 10), none, false, []⟩,
            ⟨(some 61), .mov (.t 18), none, false, []⟩,
            ⟨(some 62), .iaddr 1 none (.t 59) (.t 60), none, false, []⟩,
            ⟨none, .store 1 (.t 62) (.t 61), none, false, []⟩] none [9, 10, 11, 12, 13, 16, 29, 30, 31])
          (.exit 2))
          .skip))
        (.seq (.ops [⟨(some 63), .mov (.t 9), none, false, []⟩,
          ⟨(some 64), .append 1 16 (.c .nils) (.t 63), none, false, []⟩,
          ⟨(some 65), .mov (.t 18), none, false, []⟩,
          ⟨(some 66), .bslice true 1 1 [(.str [])] [(0, 1, (.t 65))], none, false, []⟩,
          ⟨(some 67), .append 1 16 (.t 64) (.t 66), none, false, []⟩,
          ⟨(some 9), .mov (.t 67), none, false, []⟩] none [9, 10, 12, 13, 16, 29, 30, 31])
        (.seq (.ops [⟨(some 68), .mov (.t 10), none, false, []⟩,
          ⟨(some 69), .bin .none .add (.t 68) (.c (.int .i64 1)), none, false, []⟩,
          ⟨(some 10), .mov (.t 69), none, false, []⟩] none [9, 10, 12, 13, 16, 29, 30, 31])
        (.seq (.ops [⟨(some 11), .mov (.c (.bool true)), none, false, []⟩] none [9, 10, 11, 12, 13, 16, 29, 30, 31])
        (.seq (.ops [⟨(some 70), .mov (.t 10), none, false, []⟩,
          ⟨(some 71), .bin .none .gtr (.t 70) (.c (.int .i64 20)), none, false, []⟩] none [9, 10, 11, 12, 13, 16, 29, 30, 31, 71])
        (.cond (.t 71)
          (.seq (.ops [⟨(some 72), .mov (.t 9), none, false, []⟩,
            ⟨(some 73), .slice 1 (.t 72) (some (.c (.int .i64 1))) none, none, false, []⟩,
            ⟨(some 9), .mov (.t 73), none, false, []⟩] none [9, 10, 11, 12, 13, 16, 29, 30, 31])
          (.ops [⟨(some 74), .mov (.t 10), none, false, []⟩,
            ⟨(some 75), .bin .none .sub (.t 74) (.c (.int .i64 1)), none, false, []⟩,
            ⟨(some 10), .mov (.t 75), none, false, []⟩] none [9, 10, 11, 12, 13, 16, 29, 30, 31]))
          .skip)))))))))
        (.seq (.ops [⟨(some 77), .bin .none .eql (.t 40) (.c (.int .i64 2)), none, false, []⟩,
          ⟨(some 76), .mov (.t 77), none, false, []⟩] none [9, 10, 11, 12, 13, 16, 29, 30, 31, 40, 76])
        (.cond (.t 76)
          (.ops [⟨(some 11), .mov (.c (.bool false)), none, false, []⟩] none [9, 10, 11, 12, 13, 16, 29, 30, 31])
          (.seq (.ops [⟨(some 79), .bin .none .eql (.t 40) (.c (.int .i64 3)), none, false, []⟩,
            ⟨(some 78), .mov (.t 79), none, false, []⟩] none [9, 10, 11, 12, 13, 16, 29, 30, 31, 40, 78])
          (.cond (.t 78)
            (.seq (.seq (.ops [⟨(some 80), .mov (.t 10), none, false, []⟩,
              ⟨(some 81), .bin .none .eql (.t 80) (.c (.int .i64 0)), none, false, []⟩] none [9, 10, 11, 12, 13, 16, 29, 30, 31, 81])
            (.cond (.t 81)
              (.seq (.ops [⟨(some 16), .mov (.c (.int .i64 7)), none, false, []⟩] none [9, 10, 11, 12, 13, 16, 29, 30, 31])
              (.exit 2))
              .skip))
            (.seq (.ops [⟨(some 82), .mov (.t 10), none, false, []⟩,
              ⟨(some 83), .bin .none .sub (.t 82) (.c (.int .i64 1)), none, false, []⟩,
              ⟨(some 10), .mov (.t 83), none, false, []⟩] none [9, 10, 12, 13, 16, 29, 30, 31])
            (.ops [⟨(some 11), .mov (.c (.bool false)), none, false, []⟩] none [9, 10, 11, 12, 13, 16, 29, 30, 31])))
            (.seq (.ops [⟨(some 85), .bin .none .eql (.t 40) (.c (.int .i64 4)), none, false, []⟩,
              ⟨(some 84), .mov (.t 85), none, false, []⟩] none [9, 10, 11, 12, 13, 16, 29, 30, 31, 84])
            (.cond (.t 84)
              (.seq (.seq (.ops [⟨(some 86), .mov (.t 10), none, false, []⟩,
                ⟨(some 87), .bin .none .add (.t 86) (.c (.int .i64 1)), none, false, []⟩,
                ⟨(some 88), .mov (.t 9), none, false, []⟩,
                ⟨(some 89), .len false (.t 88), none, false, []⟩,
                ⟨(some 90), .bin .none .eql (.t 87) (.t 89), none, false, []⟩] none [9, 10, 11, 12, 13, 16, 29, 30, 31, 90])
              (.cond (.t 90)
                (.seq (.ops [⟨(some 16), .mov (.c (.int .i64 7)), none, false, []⟩] none [9, 10, 11, 12, 13, 16, 29, 30, 31])
                (.exit 2))
                .skip))
              (.seq (.ops [⟨(some 91), .mov (.t 10), none, false, []⟩,
                ⟨(some 92), .bin .none .add (.t 91) (.c (.int .i64 1)), none, false, []⟩,
                ⟨(some 10), .mov (.t 92), none, false, []⟩] none [9, 10, 12, 13, 16, 29, 30, 31])
              (.ops [⟨(some 11), .mov (.c (.bool false)), none, false, []⟩] none [9, 10, 11, 12, 13, 16, 29, 30, 31])))
              (.ops [⟨(some 16), .mov (.c (.int .i64 3)), none, false, []⟩] none [9, 10, 11, 12, 13, 16, 29, 30, 31])))))))))))
    (.seq (.ops [⟨(some 93), .mov (.t 12), none, false, []⟩,
      ⟨(some 94), .mov (.t 9), none, false, []⟩,
      ⟨(some 95), .mov (.t 10), none, false, []⟩,
      ⟨(some 96), .iaddr 1 none (.t 94) (.t 95), none, false, []⟩,
      ⟨(some 97), .load 1 false (.t 96), none, false, []⟩,
      ⟨(some 98), .bslice true 1 1 [(.str [])] [(0, 1, (.t 97))], none, false, []⟩,
      ⟨(some 99), .append 1 16 (.t 93) (.t 98), none, false, []⟩,
      ⟨(some 12), .mov (.t 99), none, false, []⟩] none [9, 10, 11, 12, 13, 16, 29, 30, 31])
    (.ops [⟨(some 100), .mov (.t 13), none, false, []⟩,
      ⟨(some 101), .mov (.t 16), none, false, []⟩,
      ⟨(some 102), .bslice true 1 1 [(.int .i64 0)] [(0, 1, (.t 101))], none, false, []⟩,
      ⟨(some 103), .append 1 8 (.t 100) (.t 102), none, false, []⟩,
      ⟨(some 13), .mov (.t 103), none, false, []⟩] none [9, 10, 11, 12, 13, 29, 30, 31])))))))
    (.ops [⟨(some 104), .bin .none .add (.t 31) (.c (.int .i64 1)), none, false, []⟩,
      ⟨(some 31), .mov (.t 104), none, false, []⟩] none [9, 10, 11, 12, 13, 29, 30, 31])))))))
  (.seq (.ops [⟨(some 105), .mov (.t 12), none, false, []⟩,
    ⟨(some 106), .mov (.t 13), none, false, []⟩,
    ⟨(some 107), .mov (.t 10), none, false, []⟩,
    ⟨(some 108), .mov (.t 9), none, false, []⟩,
    ⟨(some 109), .len false (.t 108), none, false, []⟩,
    ⟨(some 110), .bin .none .sub (.t 109) (.c (.int .i64 1)), none, false, []⟩,
    ⟨(some 111), .mov (.t 10), none, false, []⟩,
    ⟨(some 112), .bin .none .sub (.t 110) (.t 111), none, false, []⟩,
    ⟨(some 4), .mov (.t 105), none, false, []⟩,
    ⟨(some 5), .mov (.t 106), none, false, []⟩,
    ⟨(some 6), .mov (.t 107), none, false, []⟩,
    ⟨(some 7), .mov (.t 112), none, false, []⟩,
    ⟨(some 8), .mov (.c (.int .i64 0)), none, false, []⟩] none [4, 5, 6, 7, 8])
  .ret)))))))))
def ref_HistPlayed_r : List RRes := [.tmp 4, .tmp 5, .tmp 6, .tmp 7, .tmp 8]
def ref_HistPlayed_hi : Hi := ⟨[(28, .str), (12, .str), (13, (.int .i64)), (64, .str), (66, .str), (67, .str), (98, .str), (99, .str), (102, (.int .i64)), (103, (.int .i64)), (15, (.st (.cons (.int .i64) (.cons (.st (.cons (.int .i64) (.cons (.int .i64) (.cons .str .nil)))) .nil))))], [(0, "text"), (1, "l"), (2, "text"), (3, "l"), (9, "line"), (10, "at"), (11, "open"), (12, "texts"), (13, "codes"), (15, "d"), (16, "e"), (17, "now"), (18, "made")]⟩
def ref_HistPlayed_an : An := (.seq .d (.seq .d (.seq .d (.seq .d (.seq .d (.seq .d (.seq .d (.seq (.seq .d (.loop [9, 12, 13] [] [9] .d)) .d))))))))
def ref_HistPlayed_fi : Fi := ⟨113, ref_HistPlayed_c, ref_HistPlayed_r, ref_HistPlayed_an, ref_HistPlayed_hi, none⟩
theorem ref_HistPlayed_ok : FiOk Try.prog f_ref_HistPlayed ref_HistPlayed_fi :=
  ⟨fun _ => by kernel_rfl, fun _ h hlen => fun_sound (by kernel_rfl) (fn := Try.f6) (draw_sound _ _) Try.func6 rfl (by kernel_rfl : comp Try.prog 113 _ ref_HistPlayed_c = some ref_HistPlayed_c) (by kernel_rfl : cRes Try.prog Try.f6.results.toList = some ref_HistPlayed_r) hlen h, fun _ h => nomatch h⟩

/-- fustian/fustianlaw.HistCounts: slots [0 text, 1 l, 2 text, 3 l, 5 a, 6 b, 7 e, 8 _, 9 _, 10 c, 11 d, 12 f] -/
def law_HistCounts_c : SCode :=
  (.seq (.ops [⟨(some 4), .mov (.c (.bool false)), none, false, []⟩] none [0, 1])
  (.seq (.ops [⟨(some 14), .mov (.t 0), none, false, []⟩,
    ⟨(some 15), .mov (.t 1), none, false, []⟩,
    ⟨(some 16), .call f_hist_Counts [(.t 14), (.t 15)], none, false, []⟩,
    ⟨(some 13), .mov (.t 16), none, false, []⟩,
    ⟨(some 17), .extract (.t 13) 0, none, false, []⟩,
    ⟨(some 18), .extract (.t 13) 1, none, false, []⟩,
    ⟨(some 19), .extract (.t 13) 2, none, false, []⟩,
    ⟨(some 5), .mov (.t 17), none, false, []⟩,
    ⟨(some 6), .mov (.t 18), none, false, []⟩,
    ⟨(some 7), .mov (.t 19), none, false, []⟩] none [0, 1, 5, 6, 7])
  (.seq (.ops [⟨(some 21), .mov (.t 0), none, false, []⟩,
    ⟨(some 22), .mov (.t 1), none, false, []⟩,
    ⟨(some 23), .call f_ref_HistPlayed [(.t 21), (.t 22)], none, false, []⟩,
    ⟨(some 20), .mov (.t 23), none, false, []⟩,
    ⟨(some 24), .extract (.t 20) 0, none, false, []⟩,
    ⟨(some 25), .extract (.t 20) 1, none, false, []⟩,
    ⟨(some 26), .extract (.t 20) 2, none, false, []⟩,
    ⟨(some 27), .extract (.t 20) 3, none, false, []⟩,
    ⟨(some 28), .extract (.t 20) 4, none, false, []⟩,
    ⟨(some 8), .mov (.t 24), none, false, []⟩,
    ⟨(some 9), .mov (.t 25), none, false, []⟩,
    ⟨(some 10), .mov (.t 26), none, false, []⟩,
    ⟨(some 11), .mov (.t 27), none, false, []⟩,
    ⟨(some 12), .mov (.t 28), none, false, []⟩] none [5, 6, 7, 10, 11, 12])
  (.seq (.ops [⟨(some 29), .mov (.t 5), none, false, []⟩,
    ⟨(some 30), .mov (.t 10), none, false, []⟩,
    ⟨(some 31), .bin .none .eql (.t 29) (.t 30), none, false, []⟩,
    ⟨(some 32), .mov (.t 31), none, true, []⟩,
    ⟨(some 33), .mov (.t 6), (some (32, true)), false, []⟩,
    ⟨(some 34), .mov (.t 11), (some (32, true)), false, []⟩,
    ⟨(some 35), .bin .none .eql (.t 33) (.t 34), (some (32, true)), false, []⟩,
    ⟨(some 36), .pick (.t 32) (.t 35) (.c (.bool false)), none, false, []⟩,
    ⟨(some 37), .mov (.t 36), none, true, []⟩,
    ⟨(some 38), .mov (.t 7), (some (37, true)), false, []⟩,
    ⟨(some 39), .mov (.t 12), (some (37, true)), false, []⟩,
    ⟨(some 40), .bin .none .eql (.t 38) (.t 39), (some (37, true)), false, []⟩,
    ⟨(some 41), .pick (.t 37) (.t 40) (.c (.bool false)), none, false, []⟩,
    ⟨(some 4), .mov (.t 41), none, false, []⟩] none [4])
  .ret))))
def law_HistCounts_r : List RRes := [.tmp 4]
def law_HistCounts_hi : Hi := ⟨[], [(0, "text"), (1, "l"), (2, "text"), (3, "l"), (5, "a"), (6, "b"), (7, "e"), (10, "c"), (11, "d"), (12, "f")]⟩
def law_HistCounts_an : An := .d
def law_HistCounts_fi : Fi := ⟨42, law_HistCounts_c, law_HistCounts_r, law_HistCounts_an, law_HistCounts_hi, none⟩
theorem law_HistCounts_ok : FiOk Try.prog f_law_HistCounts law_HistCounts_fi :=
  ⟨fun _ => by kernel_rfl, fun _ h hlen => fun_sound (by kernel_rfl) (fn := Try.f4) (draw_sound _ _) Try.func4 rfl (by kernel_rfl : comp Try.prog 42 _ law_HistCounts_c = some law_HistCounts_c) (by kernel_rfl : cRes Try.prog Try.f4.results.toList = some law_HistCounts_r) hlen h, fun _ h => nomatch h⟩

end Go.Proofs.Yteifemonokemgaa
