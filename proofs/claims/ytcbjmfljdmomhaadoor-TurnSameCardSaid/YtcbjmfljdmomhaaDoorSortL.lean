/-
  THE LIBRARY's SORT of integers LAID at this program.
-/
import Derived.Test.YtcbjmfljdmomhaaDoorProg
import Derived.Shelf.SortM.Plain
import Derived.Shelf.SortM.SortNone
namespace Go.Proofs.YtcbjmfljdmomhaaDoor
open Go.Shelf
def sortL_ren : Go.Shelf.Ren := ⟨fun | 5 => 85 | 8 => 101 | 7 => 100 | 19 => 117 | 20 => 118 | 10 => 108 | 11 => 109 | 12 => 110 | 13 => 111 | 14 => 112 | 15 => 113 | 16 => 114 | 17 => 115 | 18 => 116 | 30 => 127 | 31 => 128 | 32 => 129 | 33 => 130 | 34 => 131 | 35 => 132 | 40 => 135 | n => n, fun | 23 => 26 | 25 => 3 | 3 => 3 | 32 => 140 | 22 => 26 | 0 => 0 | 44 => 162 | 46 => 164 | 4 => 4 | 36 => 167 | 35 => 166 | 41 => 77 | 5 => 5 | 9 => 9 | 53 => 175 | 57 => 179 | 63 => 183 | 64 => 184 | n => n, fun | n => n⟩
theorem sortL : Go.Proofs.SlLaysM.n5 Tryd.prog sortL_ren where
  mixed := by kernel_rfl
  f5 := ⟨"slices.Sort[[]int,int]", by decide, Tryd.func85.trans (congrArg some (by kernel_rfl))⟩
  f7 := ⟨"slices.pdqsortOrdered[int]", by decide, Tryd.func100.trans (congrArg some (by kernel_rfl))⟩
  f8 := Tryd.func101.trans (congrArg some (by kernel_rfl))
  f10 := ⟨"slices.insertionSortOrdered[int]", by decide, Tryd.func108.trans (congrArg some (by kernel_rfl))⟩
  f11 := ⟨"slices.heapSortOrdered[int]", by decide, Tryd.func109.trans (congrArg some (by kernel_rfl))⟩
  f12 := ⟨"slices.breakPatternsOrdered[int]", by decide, Tryd.func110.trans (congrArg some (by kernel_rfl))⟩
  f13 := ⟨"slices.choosePivotOrdered[int]", by decide, Tryd.func111.trans (congrArg some (by kernel_rfl))⟩
  f14 := ⟨"slices.reverseRangeOrdered[int]", by decide, Tryd.func112.trans (congrArg some (by kernel_rfl))⟩
  f15 := ⟨"slices.partialInsertionSortOrdered[int]", by decide, Tryd.func113.trans (congrArg some (by kernel_rfl))⟩
  f16 := ⟨"cmp.Less[int]", by decide, Tryd.func114.trans (congrArg some (by kernel_rfl))⟩
  f17 := ⟨"slices.partitionEqualOrdered[int]", by decide, Tryd.func115.trans (congrArg some (by kernel_rfl))⟩
  f18 := ⟨"slices.partitionOrdered[int]", by decide, Tryd.func116.trans (congrArg some (by kernel_rfl))⟩
  f19 := Tryd.func117.trans (congrArg some (by kernel_rfl))
  f20 := Tryd.func118.trans (congrArg some (by kernel_rfl))
  f30 := ⟨"slices.siftDownOrdered[int]", by decide, Tryd.func127.trans (congrArg some (by kernel_rfl))⟩
  f31 := Tryd.func128.trans (congrArg some (by kernel_rfl))
  f32 := Tryd.func129.trans (congrArg some (by kernel_rfl))
  f33 := ⟨"slices.medianAdjacentOrdered[int]", by decide, Tryd.func130.trans (congrArg some (by kernel_rfl))⟩
  f34 := ⟨"slices.medianOrdered[int]", by decide, Tryd.func131.trans (congrArg some (by kernel_rfl))⟩
  f35 := ⟨"cmp.isNaN[int]", by decide, Tryd.func132.trans (congrArg some (by kernel_rfl))⟩
  f40 := ⟨"slices.order2Ordered[int]", by decide, Tryd.func135.trans (congrArg some (by kernel_rfl))⟩
  t0 := Tryd.underlying0
  a0 := Tryd.isAgg0
  z0 := Tryd.sizeOf0
  v0 := Tryd.zeroValue0
  t3 := Tryd.underlying3
  a3 := Tryd.isAgg3
  z3 := Tryd.sizeOf3
  v3 := Tryd.zeroValue3
  t4 := Tryd.underlying4
  a4 := Tryd.isAgg4
  z4 := Tryd.sizeOf4
  v4 := Tryd.zeroValue4
  t5 := Tryd.underlying5
  a5 := Tryd.isAgg5
  z5 := Tryd.sizeOf5
  v5 := Tryd.zeroValue5
  t9 := Tryd.underlying9
  a9 := Tryd.isAgg9
  z9 := Tryd.sizeOf9
  v9 := Tryd.zeroValue9
  t22 := Tryd.underlying26
  a22 := Tryd.isAgg26
  z22 := Tryd.sizeOf26
  v22 := Tryd.zeroValue26
  t23 := Tryd.underlying26
  a23 := Tryd.isAgg26
  z23 := Tryd.sizeOf26
  v23 := Tryd.zeroValue26
  t25 := Tryd.underlying3
  a25 := Tryd.isAgg3
  z25 := Tryd.sizeOf3
  v25 := Tryd.zeroValue3
  t32 := Tryd.underlying140
  a32 := Tryd.isAgg140
  z32 := Tryd.sizeOf140
  v32 := Tryd.zeroValue140
  t35 := Tryd.underlying166
  a35 := Tryd.isAgg166
  z35 := Tryd.sizeOf166
  v35 := Tryd.zeroValue166
  t36 := Tryd.underlying167
  a36 := Tryd.isAgg167
  z36 := Tryd.sizeOf167
  v36 := Tryd.zeroValue167
  t41 := Tryd.underlying77
  a41 := Tryd.isAgg77
  z41 := Tryd.sizeOf77
  v41 := Tryd.zeroValue77
  t44 := Tryd.underlying162
  a44 := Tryd.isAgg162
  z44 := Tryd.sizeOf162
  v44 := Tryd.zeroValue162
  t46 := Tryd.underlying164
  a46 := Tryd.isAgg164
  z46 := Tryd.sizeOf164
  v46 := Tryd.zeroValue164
  t53 := Tryd.underlying175
  a53 := Tryd.isAgg175
  z53 := Tryd.sizeOf175
  v53 := Tryd.zeroValue175
  t57 := Tryd.underlying179
  a57 := Tryd.isAgg179
  z57 := Tryd.sizeOf179
  v57 := Tryd.zeroValue179
  t63 := Tryd.underlying183
  a63 := Tryd.isAgg183
  z63 := Tryd.sizeOf183
  v63 := Tryd.zeroValue183
  t64 := Tryd.underlying184
  a64 := Tryd.isAgg184
  z64 := Tryd.sizeOf184
  v64 := Tryd.zeroValue184
end Go.Proofs.YtcbjmfljdmomhaaDoor
