/- strings.Builder's text at this dump: the library's contracts are laid at it. Conditions: none. -/
import Derived.Test.YtomipmjgcgihiaaProg
import Derived.Shelf.Lay
import Derived.Shelf.Strings.Builder1
import Derived.Ground.NamesProg
namespace Go.Proofs
open Go.Shelf
shelf_lay Lays.n169 Nm 169 at Try as Try.bString
shelf_lay Lays.n170 Nm 170 at Try as Try.bLen
def Try.bWrite_ren : Ren := ⟨fun | 166 => 8 | 240 => 14 | 276 => 15 | n => n, fun | 0 => 0 | 3 => 3 | 4 => 4 | 9 => 9 | 5 => 5 | 37 => 28 | 70 => 27 | 72 => 30 | 75 => 34 | 80 => 38 | 164 => 42 | 20 => 20 | 127 => 41 | n => n, fun n => n⟩
theorem Try.bWrite : Lays.n166 Try.prog Try.bWrite_ren where
  mixed := by kernel_rfl
  f166 := (Try.func8).trans (congrArg some (by kernel_rfl))
  f240 := (Try.func14).trans (congrArg some (by kernel_rfl))
  f276 := (Try.func15).trans (congrArg some (by kernel_rfl))
  t0 := Try.underlying0
  a0 := Try.isAgg0
  z0 := Try.sizeOf0
  v0 := Try.zeroValue0
  t3 := Try.underlying3
  a3 := Try.isAgg3
  z3 := Try.sizeOf3
  v3 := Try.zeroValue3
  t4 := Try.underlying4
  a4 := Try.isAgg4
  z4 := Try.sizeOf4
  v4 := Try.zeroValue4
  t9 := Try.underlying9
  a9 := Try.isAgg9
  z9 := Try.sizeOf9
  v9 := Try.zeroValue9
  t20 := Try.underlying20
  a20 := Try.isAgg20
  z20 := Try.sizeOf20
  v20 := Try.zeroValue20
  t37 := Try.underlying28
  a37 := Try.isAgg28
  z37 := Try.sizeOf28
  v37 := Try.zeroValue28
  t70 := Try.underlying27
  a70 := Try.isAgg27
  z70 := Try.sizeOf27
  v70 := Try.zeroValue27
  t72 := Try.underlying30
  a72 := Try.isAgg30
  z72 := Try.sizeOf30
  v72 := Try.zeroValue30
  t75 := Try.underlying34
  a75 := Try.isAgg34
  z75 := Try.sizeOf34
  v75 := Try.zeroValue34
  t164 := Try.underlying42
  a164 := Try.isAgg42
  z164 := Try.sizeOf42
  v164 := Try.zeroValue42
theorem Try.bExtraW : Builder.Extra Try.prog Try.bWrite_ren where
  sizeBuilder := by kernel_rfl
  liesBuilder := by kernel_rfl
  t5 := Try.underlying5
  a5 := Try.isAgg5
  z5 := Try.sizeOf5
  v5 := Try.zeroValue5
  infoByte := by kernel_rfl
  cellsByte := by kernel_rfl
  sizeByte := by kernel_rfl
  neB5 := by decide
theorem Try.bExtraS : Builder.Extra Try.prog Try.bString_ren where
  sizeBuilder := by kernel_rfl
  liesBuilder := by kernel_rfl
  t5 := Try.underlying5
  a5 := Try.isAgg5
  z5 := Try.sizeOf5
  v5 := Try.zeroValue5
  infoByte := by kernel_rfl
  cellsByte := by kernel_rfl
  sizeByte := by kernel_rfl
  neB5 := by decide
end Go.Proofs
