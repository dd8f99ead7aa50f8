/-
  strings.LastIndex LAID at this program.
-/
import Derived.Test.YtjnjgcibhjdmdaaGreatDoorProg
import Derived.Shelf.Strings.LastIndex
namespace Go.Proofs.YtjnjgcibhjdmdaaGreatDoor
open Go.Shelf
def lastL_ren : Go.Shelf.Ren := ⟨fun | 148 => 31 | 222 => 55 | 223 => 56 | 269 => 88 | n => n, fun | 9 => 9 | 3 => 3 | 4 => 4 | 5 => 5 | 146 => 135 | 51 => 134 | 46 => 163 | n => n, fun | n => n⟩
theorem lastL : Go.Proofs.Lays.n148 Tryz.prog lastL_ren where
  mixed := by kernel_rfl
  f148 := Tryz.func31.trans (congrArg some (by kernel_rfl))
  f222 := Tryz.func55.trans (congrArg some (by kernel_rfl))
  f223 := Tryz.func56.trans (congrArg some (by kernel_rfl))
  f269 := Tryz.func88.trans (congrArg some (by kernel_rfl))
  t3 := Tryz.underlying3
  a3 := Tryz.isAgg3
  z3 := Tryz.sizeOf3
  v3 := Tryz.zeroValue3
  t4 := Tryz.underlying4
  a4 := Tryz.isAgg4
  z4 := Tryz.sizeOf4
  v4 := Tryz.zeroValue4
  t5 := Tryz.underlying5
  a5 := Tryz.isAgg5
  z5 := Tryz.sizeOf5
  v5 := Tryz.zeroValue5
  t9 := Tryz.underlying9
  a9 := Tryz.isAgg9
  z9 := Tryz.sizeOf9
  v9 := Tryz.zeroValue9
  t46 := Tryz.underlying163
  a46 := Tryz.isAgg163
  z46 := Tryz.sizeOf163
  v46 := Tryz.zeroValue163
  t51 := Tryz.underlying134
  a51 := Tryz.isAgg134
  z51 := Tryz.sizeOf134
  v51 := Tryz.zeroValue134
  t146 := Tryz.underlying135
  a146 := Tryz.isAgg135
  z146 := Tryz.sizeOf135
  v146 := Tryz.zeroValue135
end Go.Proofs.YtjnjgcibhjdmdaaGreatDoor
