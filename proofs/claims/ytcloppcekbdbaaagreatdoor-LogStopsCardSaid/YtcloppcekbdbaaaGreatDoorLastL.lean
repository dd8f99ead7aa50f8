/-
  strings.LastIndex LAID at this program.
-/
import Derived.Test.YtcloppcekbdbaaaGreatDoorProg
import Derived.Shelf.Strings.LastIndex
namespace Go.Proofs.YtcloppcekbdbaaaGreatDoor
open Go.Shelf
def lastL_ren : Go.Shelf.Ren := ⟨fun | 148 => 55 | 222 => 106 | 223 => 107 | 269 => 146 | n => n, fun | 9 => 9 | 3 => 3 | 4 => 4 | 5 => 5 | 146 => 193 | 51 => 192 | 46 => 188 | n => n, fun | n => n⟩
theorem lastL : Go.Proofs.Lays.n148 Tryz.prog lastL_ren where
  mixed := by kernel_rfl
  f148 := Tryz.func55.trans (congrArg some (by kernel_rfl))
  f222 := Tryz.func106.trans (congrArg some (by kernel_rfl))
  f223 := Tryz.func107.trans (congrArg some (by kernel_rfl))
  f269 := Tryz.func146.trans (congrArg some (by kernel_rfl))
  t3 := Tryz.underlying3
  a3 := Tryz.isAgg3
  z3 := Tryz.sizeOf3
  v3 := Tryz.zeroValue3
  t4 := Tryz.underlying4
  a4 := Tryz.isAgg4
  z4 := Tryz.sizeOf4
  v4 := Tryz.zeroValue4
  t5 := Tryz.underlying5
  a5 := Tryz.isAgg5
  z5 := Tryz.sizeOf5
  v5 := Tryz.zeroValue5
  t9 := Tryz.underlying9
  a9 := Tryz.isAgg9
  z9 := Tryz.sizeOf9
  v9 := Tryz.zeroValue9
  t46 := Tryz.underlying188
  a46 := Tryz.isAgg188
  z46 := Tryz.sizeOf188
  v46 := Tryz.zeroValue188
  t51 := Tryz.underlying192
  a51 := Tryz.isAgg192
  z51 := Tryz.sizeOf192
  v51 := Tryz.zeroValue192
  t146 := Tryz.underlying193
  a146 := Tryz.isAgg193
  z146 := Tryz.sizeOf193
  v146 := Tryz.zeroValue193
end Go.Proofs.YtcloppcekbdbaaaGreatDoor
