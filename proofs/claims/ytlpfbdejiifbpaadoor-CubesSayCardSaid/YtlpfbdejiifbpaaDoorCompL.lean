/-
  THE LIBRARY's Compact of integers LAID at this program.
-/
import Derived.Test.YtlpfbdejiifbpaaDoorProg
import Derived.Shelf.SlicesE.Compact
namespace Go.Proofs.YtlpfbdejiifbpaaDoor
open Go.Shelf
def compL_ren : Go.Shelf.Ren := ⟨fun | 43 => 100 | n => n, fun | 22 => 23 | 23 => 3 | 3 => 3 | 4 => 4 | 0 => 0 | n => n, fun | n => n⟩
theorem compL : Go.Proofs.SlLaysE.n43 Tryd.prog compL_ren where
  mixed := by kernel_rfl
  f43 := ⟨"slices.Compact[[]int,int]", by decide, Tryd.func100.trans (congrArg some (by kernel_rfl))⟩
  t0 := Tryd.underlying0
  a0 := Tryd.isAgg0
  z0 := Tryd.sizeOf0
  v0 := Tryd.zeroValue0
  t3 := Tryd.underlying3
  a3 := Tryd.isAgg3
  z3 := Tryd.sizeOf3
  v3 := Tryd.zeroValue3
  t4 := Tryd.underlying4
  a4 := Tryd.isAgg4
  z4 := Tryd.sizeOf4
  v4 := Tryd.zeroValue4
  t22 := Tryd.underlying23
  a22 := Tryd.isAgg23
  z22 := Tryd.sizeOf23
  v22 := Tryd.zeroValue23
  a23 := Tryd.isAgg3
  z23 := Tryd.sizeOf3
end Go.Proofs.YtlpfbdejiifbpaaDoor
