/-
  THE LIBRARY's Compact of integers LAID at this program.
-/
import Derived.Test.YtlpfbdejiifbpaaGreatDoorProg
import Derived.Shelf.SlicesE.Compact
namespace Go.Proofs.YtlpfbdejiifbpaaGreatDoor
open Go.Shelf
def compL_ren : Go.Shelf.Ren := ⟨fun | 43 => 119 | n => n, fun | 22 => 23 | 23 => 3 | 3 => 3 | 4 => 4 | 0 => 0 | n => n, fun | n => n⟩
theorem compL : Go.Proofs.SlLaysE.n43 Tryz.prog compL_ren where
  mixed := by kernel_rfl
  f43 := ⟨"slices.Compact[[]int,int]", by decide, Tryz.func119.trans (congrArg some (by kernel_rfl))⟩
  t0 := Tryz.underlying0
  a0 := Tryz.isAgg0
  z0 := Tryz.sizeOf0
  v0 := Tryz.zeroValue0
  t3 := Tryz.underlying3
  a3 := Tryz.isAgg3
  z3 := Tryz.sizeOf3
  v3 := Tryz.zeroValue3
  t4 := Tryz.underlying4
  a4 := Tryz.isAgg4
  z4 := Tryz.sizeOf4
  v4 := Tryz.zeroValue4
  t22 := Tryz.underlying23
  a22 := Tryz.isAgg23
  z22 := Tryz.sizeOf23
  v22 := Tryz.zeroValue23
  a23 := Tryz.isAgg3
  z23 := Tryz.sizeOf3
end Go.Proofs.YtlpfbdejiifbpaaGreatDoor
