/-
  THE LIBRARY's SortFunc of integers LAID at this program.
  THE WALKS of cubes.far and of the comparison that sorts a cube's members.
  THE LIBRARY's Compact of integers LAID at this program.
  THE WALK of cubes.merge: slices.Grow of nil, slices.Concat of two, the library's SortFunc and Compact.
  THE WALKS of cubes.add, checked, both, one.
  THE WALKS of slices.Clone at lists, cubes.one, cubes.none.
-/
import Derived.Test.YtjnjgcibhjdmdaaGreatDoorProg
import Derived.Shelf.SlSortCmp.NoneTotal
import Derived.Test.YtjnjgcibhjdmdaaGreatDoorMem
import Derived.IntWalk
import Derived.Shelf.SlicesE.Compact
import Derived.Test.YtjnjgcibhjdmdaaGreatDoorSpanG
import Derived.Test.YtjnjgcibhjdmdaaGreatDoorVennC
import Derived.Lib.SlKeysI
namespace Go.Proofs.YtjnjgcibhjdmdaaGreatDoor
open Go.Shelf
def sortF_ren : Go.Shelf.Ren := ⟨fun | 6 => 146 | 15 => 160 | 14 => 159 | 28 => 172 | 29 => 141 | 20 => 164 | 21 => 165 | 22 => 166 | 23 => 167 | 24 => 168 | 25 => 169 | 26 => 170 | 27 => 171 | 46 => 173 | 47 => 174 | 48 => 175 | 49 => 176 | 50 => 177 | 57 => 178 | n => n, fun | 22 => 30 | 24 => 3 | 25 => 70 | 3 => 3 | 39 => 163 | 0 => 0 | 53 => 134 | 55 => 183 | 4 => 4 | 46 => 210 | 45 => 209 | 50 => 105 | 5 => 5 | 9 => 9 | 66 => 215 | 70 => 219 | 76 => 221 | 77 => 68 | n => n, fun | n => n⟩
theorem sortF : Go.Proofs.SlLaysF.n6 Tryz.prog sortF_ren where
  mixed := by kernel_rfl
  f6 := ⟨"slices.SortFunc[[]int,int]", by decide, Tryz.func146.trans (congrArg some (by kernel_rfl))⟩
  f14 := ⟨"slices.pdqsortCmpFunc[int]", by decide, Tryz.func159.trans (congrArg some (by kernel_rfl))⟩
  f15 := Tryz.func160.trans (congrArg some (by kernel_rfl))
  f20 := ⟨"slices.insertionSortCmpFunc[int]", by decide, Tryz.func164.trans (congrArg some (by kernel_rfl))⟩
  f21 := ⟨"slices.heapSortCmpFunc[int]", by decide, Tryz.func165.trans (congrArg some (by kernel_rfl))⟩
  f22 := ⟨"slices.breakPatternsCmpFunc[int]", by decide, Tryz.func166.trans (congrArg some (by kernel_rfl))⟩
  f23 := ⟨"slices.choosePivotCmpFunc[int]", by decide, Tryz.func167.trans (congrArg some (by kernel_rfl))⟩
  f24 := ⟨"slices.reverseRangeCmpFunc[int]", by decide, Tryz.func168.trans (congrArg some (by kernel_rfl))⟩
  f25 := ⟨"slices.partialInsertionSortCmpFunc[int]", by decide, Tryz.func169.trans (congrArg some (by kernel_rfl))⟩
  f26 := ⟨"slices.partitionEqualCmpFunc[int]", by decide, Tryz.func170.trans (congrArg some (by kernel_rfl))⟩
  f27 := ⟨"slices.partitionCmpFunc[int]", by decide, Tryz.func171.trans (congrArg some (by kernel_rfl))⟩
  f28 := Tryz.func172.trans (congrArg some (by kernel_rfl))
  f29 := Tryz.func141.trans (congrArg some (by kernel_rfl))
  f46 := ⟨"slices.siftDownCmpFunc[int]", by decide, Tryz.func173.trans (congrArg some (by kernel_rfl))⟩
  f47 := Tryz.func174.trans (congrArg some (by kernel_rfl))
  f48 := Tryz.func175.trans (congrArg some (by kernel_rfl))
  f49 := ⟨"slices.medianAdjacentCmpFunc[int]", by decide, Tryz.func176.trans (congrArg some (by kernel_rfl))⟩
  f50 := ⟨"slices.medianCmpFunc[int]", by decide, Tryz.func177.trans (congrArg some (by kernel_rfl))⟩
  f57 := ⟨"slices.order2CmpFunc[int]", by decide, Tryz.func178.trans (congrArg some (by kernel_rfl))⟩
  t0 := Tryz.underlying0
  a0 := Tryz.isAgg0
  z0 := Tryz.sizeOf0
  v0 := Tryz.zeroValue0
  t3 := Tryz.underlying3
  a3 := Tryz.isAgg3
  z3 := Tryz.sizeOf3
  v3 := Tryz.zeroValue3
  t4 := Tryz.underlying4
  a4 := Tryz.isAgg4
  z4 := Tryz.sizeOf4
  v4 := Tryz.zeroValue4
  t5 := Tryz.underlying5
  a5 := Tryz.isAgg5
  z5 := Tryz.sizeOf5
  v5 := Tryz.zeroValue5
  t9 := Tryz.underlying9
  a9 := Tryz.isAgg9
  z9 := Tryz.sizeOf9
  v9 := Tryz.zeroValue9
  t22 := Tryz.underlying30
  a22 := Tryz.isAgg30
  z22 := Tryz.sizeOf30
  v22 := Tryz.zeroValue30
  a24 := Tryz.isAgg3
  z24 := Tryz.sizeOf3
  t25 := Tryz.underlying70
  a25 := Tryz.isAgg70
  z25 := Tryz.sizeOf70
  v25 := Tryz.zeroValue70
  t39 := Tryz.underlying163
  a39 := Tryz.isAgg163
  z39 := Tryz.sizeOf163
  v39 := Tryz.zeroValue163
  t45 := Tryz.underlying209
  a45 := Tryz.isAgg209
  z45 := Tryz.sizeOf209
  v45 := Tryz.zeroValue209
  t46 := Tryz.underlying210
  a46 := Tryz.isAgg210
  z46 := Tryz.sizeOf210
  v46 := Tryz.zeroValue210
  t50 := Tryz.underlying105
  a50 := Tryz.isAgg105
  z50 := Tryz.sizeOf105
  v50 := Tryz.zeroValue105
  t53 := Tryz.underlying134
  a53 := Tryz.isAgg134
  z53 := Tryz.sizeOf134
  v53 := Tryz.zeroValue134
  t55 := Tryz.underlying183
  a55 := Tryz.isAgg183
  z55 := Tryz.sizeOf183
  v55 := Tryz.zeroValue183
  t66 := Tryz.underlying215
  a66 := Tryz.isAgg215
  z66 := Tryz.sizeOf215
  v66 := Tryz.zeroValue215
  t70 := Tryz.underlying219
  a70 := Tryz.isAgg219
  z70 := Tryz.sizeOf219
  v70 := Tryz.zeroValue219
  t76 := Tryz.underlying221
  a76 := Tryz.isAgg221
  z76 := Tryz.sizeOf221
  v76 := Tryz.zeroValue221
  t77 := Tryz.underlying68
  a77 := Tryz.isAgg68
  z77 := Tryz.sizeOf68
  v77 := Tryz.zeroValue68
end Go.Proofs.YtjnjgcibhjdmdaaGreatDoor

namespace Go.Proofs.YtjnjgcibhjdmdaaGreatDoor
open Go.RowKit

/-- How far from 0, as the machine reckons it. -/
def farW (n : Int) : Int := max n (wrap64 (-n))
def cmpI (x y : Int) : Int := if x < y then -1 else if y < x then 1 else 0
def orI (a b : Int) : Int := if a = 0 then b else a
def cmpF (x y : Int) : Int := orI (cmpI (farW x) (farW y)) (cmpI x y)

set_option maxHeartbeats 1000000 in
theorem cubes_far (n : Int) (w : World) : Calls Tryz.prog 150 #[.int .i64 n] w (Pure (.int .i64 (farW n)) w) := by
  have HE := Lib.hid (show farW n = max n (wrap64 (-n)) from rfl)
  generalize farW n = F at HE ⊢
  go_enter Tryz.func150, Tryz.ntmps150
  go_wp2
  go_ret
  exact ⟨by rw [HE.out]; rfl, rfl⟩

theorem cmp_isNaN (n : Int) (w : World) : Calls Tryz.prog 161 #[.int .i64 n] w (Pure (.bool false) w) := by
  go_enter Tryz.func161, Tryz.ntmps161
  go_wp2
  go_ret
  exact ⟨by simp [go_sem], rfl⟩

set_option maxHeartbeats 1000000 in
theorem cmp_Compare (x y : Int) (w : World) : Calls Tryz.prog 149 #[.int .i64 x, .int .i64 y] w (Pure (.int .i64 (cmpI x y)) w) := by
  have HN := Lib.hid (fun n W => cmp_isNaN n W)
  unfold cmpI
  by_cases h1 : x < y
  · rw [if_pos h1]
    go_enter Tryz.func149, Tryz.ntmps149
    go_wp2_with (go_at_call 161; refine (HN.out _ _).mono ?_; rintro e w' ⟨rfl, rfl⟩)
    go_ret
    exact ⟨rfl, rfl⟩
  · rw [if_neg h1]
    by_cases h2 : y < x
    · rw [if_pos h2]
      go_enter Tryz.func149, Tryz.ntmps149
      go_wp2_with (go_at_call 161; refine (HN.out _ _).mono ?_; rintro e w' ⟨rfl, rfl⟩)
      go_ret
      exact ⟨rfl, rfl⟩
    · rw [if_neg h2]
      go_enter Tryz.func149, Tryz.ntmps149
      go_wp2_with (go_at_call 161; refine (HN.out _ _).mono ?_; rintro e w' ⟨rfl, rfl⟩)
      go_ret
      exact ⟨rfl, rfl⟩

set_option maxHeartbeats 1000000 in
theorem cmp_Or (g : Nat) (T : TypeId) (a b : Int) (w : World) (hv : Blk w g T #[.int .i64 a, .int .i64 b]) : Calls Tryz.prog 148 #[.slice (some ⟨g, 0, none⟩) 2 2] w (Pure (.int .i64 (orI a b)) w) := by
  have c0 := hv.cell 0
  have c1 := hv.cell 1
  clear hv
  unfold orI
  by_cases h1 : a = 0
  · subst h1
    rw [if_pos rfl]
    by_cases h2 : b = 0
    · subst h2
      go_enter Tryz.func148, Tryz.ntmps148
      go_wp2
      refine wp_loop_rounds 3 ?_
      rw [rounds_succ]
      go_wp2
      rw [rounds_succ]
      go_wp2
      rw [rounds_succ]
      go_wp2
      go_ret
      exact ⟨rfl, rfl⟩
    · have hb : (b != 0) = true := by simpa using h2
      go_enter Tryz.func148, Tryz.ntmps148
      go_wp2
      refine wp_loop_rounds 3 ?_
      rw [rounds_succ]
      go_wp2
      rw [rounds_succ]
      go_wp2
      go_ret
      exact ⟨rfl, rfl⟩
  · rw [if_neg h1]
    have hb : (a != 0) = true := by simpa using h1
    go_enter Tryz.func148, Tryz.ntmps148
    go_wp2
    refine wp_loop_rounds 3 ?_
    rw [rounds_succ]
    go_wp2
    go_ret
    exact ⟨rfl, rfl⟩

set_option maxHeartbeats 2000000 in
set_option maxRecDepth 100000 in
/-- The comparison: it lays one row of two. -/
theorem merge_cmp (x y : Int) (w : World) : Calls Tryz.prog 147 #[.int .i64 x, .int .i64 y] w (fun e w' => e = .returned (.int .i64 (cmpF x y)) ∧ w' = w.alloc (.cells #[.int .i64 (cmpI (farW x) (farW y)), .int .i64 (cmpI x y)] 3)) := by
  have HF := Lib.hid (fun n W => cubes_far n W)
  have HC1 := Lib.hid (fun W => cmp_Compare (farW x) (farW y) W)
  have HC2 := Lib.hid (fun W => cmp_Compare x y W)
  have HE := Lib.hid (show cmpF x y = orI (cmpI (farW x) (farW y)) (cmpI x y) from rfl)
  generalize cmpI (farW x) (farW y) = p at HC1 HE ⊢
  generalize cmpI x y = q at HC2 HE ⊢
  generalize cmpF x y = r at HE ⊢
  go_enter Tryz.func147, Tryz.ntmps147
  go_wp2_with fail
  refine (HF.out _ _).mono ?_
  rintro e w1 ⟨rfl, rfl⟩
  go_wp2_with fail
  refine (HF.out _ _).mono ?_
  rintro e w1 ⟨rfl, rfl⟩
  go_wp2_with fail
  refine (HC1.out _).mono ?_
  rintro e w1 ⟨rfl, rfl⟩
  go_wp2_with fail
  refine (HC2.out _).mono ?_
  rintro e w1 ⟨rfl, rfl⟩
  go_wp2_with fail
  refine (cmp_Or _ _ p q _ (Blk.new _ _ _)).mono ?_
  rintro e w1 ⟨rfl, rfl⟩
  go_wp2
  go_ret
  exact ⟨by rw [HE.out]; rfl, rfl⟩
end Go.Proofs.YtjnjgcibhjdmdaaGreatDoor

namespace Go.Proofs.YtjnjgcibhjdmdaaGreatDoor
open Go.Shelf
def compL_ren : Go.Shelf.Ren := ⟨fun | 43 => 151 | n => n, fun | 22 => 30 | 23 => 3 | 3 => 3 | 4 => 4 | 0 => 0 | n => n, fun | n => n⟩
theorem compL : Go.Proofs.SlLaysE.n43 Tryz.prog compL_ren where
  mixed := by kernel_rfl
  f43 := ⟨"slices.Compact[[]int,int]", by decide, Tryz.func151.trans (congrArg some (by kernel_rfl))⟩
  t0 := Tryz.underlying0
  a0 := Tryz.isAgg0
  z0 := Tryz.sizeOf0
  v0 := Tryz.zeroValue0
  t3 := Tryz.underlying3
  a3 := Tryz.isAgg3
  z3 := Tryz.sizeOf3
  v3 := Tryz.zeroValue3
  t4 := Tryz.underlying4
  a4 := Tryz.isAgg4
  z4 := Tryz.sizeOf4
  v4 := Tryz.zeroValue4
  t22 := Tryz.underlying30
  a22 := Tryz.isAgg30
  z22 := Tryz.sizeOf30
  v22 := Tryz.zeroValue30
  a23 := Tryz.isAgg3
  z23 := Tryz.sizeOf3
end Go.Proofs.YtjnjgcibhjdmdaaGreatDoor

namespace Go.Proofs.YtjnjgcibhjdmdaaGreatDoor
open Go.RowKit Go.Shelf Go.Sort

set_option maxHeartbeats 1000000 in
set_option maxRecDepth 100000 in
theorem grow_nil (n : Nat) (hn : n ≤ 1000) (w : World) : Calls Tryz.prog 158 #[.slice none 0 0, .int .i64 n] w (fun e w' => ∃ v, e = .returned v ∧ w'.ownsRow w.heap.size 3 1 v 0 [] ∧ Below w.heap.size w w') := by
  obtain ⟨i0, hi, hz0, hz1, hz2⟩ := info_parts int_info
  by_cases h0 : n = 0
  · subst h0
    go_enter Tryz.func158, Tryz.ntmps158
    go_wp2
    go_ret
    exact ⟨_, rfl, World.ownsRow_nil _ _ _ _, Below.refl _ _⟩
  · have happ := Lib.run_append_nil_zeros (P := Tryz.prog) w 30 3 30 3 i0 (.int .i64 0) .i64 .i64 Tryz.underlying30 Tryz.underlying3 hi hz0 n (by omega) (by omega) (by omega) (by rw [hz2]; omega)
    have hcapge : n ≤ grownCap w n 0 3 := grownCap_ge w _ 0 _
    have hcaple : grownCap w n 0 3 ≤ maxLen := grownCap_le_maxLen w _ 0 _ (by unfold maxLen; omega)
    generalize hcap : grownCap w n 0 3 = cap2 at happ hcapge hcaple
    generalize hZ : (Builtin.zeroCells (Value.int .i64 0).cells n ++ Builtin.zeroCells (Value.int .i64 0).cells (cap2 - n)) = Z at happ
    have hZs : Z.size = cap2 := by rw [← hZ]; simp [size_zeroCells, Value.cells]; omega
    clear hcap hZ hi hz0 hz1 hz2
    have hn1 : (0 : Int) < (n : Int) := by omega
    go_enter Tryz.func158, Tryz.ntmps158
    go_wp2_with (at_builtin; refine Lib.wpList_append_run _ rfl _ _ _ _ rfl _ _ rfl rfl _ _ happ ?_)
    go_wp2
    go_ret
    refine ⟨_, rfl, ⟨rfl, .inr ⟨w.heap.size, cap2, Z, rfl, Nat.le_refl _, ?_, Nat.zero_le _, hcaple, by omega, by simp⟩⟩, by (repeat' (first | (with_reducible exact Below.refl _ _) | (with_reducible assumption) | (with_reducible refine Below.next ?_ (by with_reducible assumption)) | (with_reducible refine Below.drew ?_) | (with_reducible refine Below.laid ?_ _) | (with_reducible refine Below.setCell ?_ ?_ _) | (with_reducible refine size_of ?_) | (with_reducible refine Nat.le_succ_of_le ?_) | go_size))⟩
    exact Blk.new w 3 Z

set_option maxHeartbeats 2000000 in
theorem concat_two (g : Nat) (T : TypeId) (sa sb : Value) (la lb : List Int) (w : World) (hg : Blk w g T #[sa, sb]) (ha : IsInts w sa la) (hb : IsInts w sb lb) (h1 : la.length ≤ 100) (h2 : lb.length ≤ 100) :
    Calls Tryz.prog 145 #[.slice (some ⟨g, 0, none⟩) 2 2] w (fun e w' => ∃ v, e = .returned v ∧ w'.ownsRow w.heap.size 3 1 v (la.length + lb.length) ((la ++ lb).map (Value.int .i64)) ∧ Below w.heap.size w w') := by
  obtain ⟨A, ca, rfl, hra, _, _⟩ := ha
  obtain ⟨B, cb, rfl, hrb, _, _⟩ := hb
  have c0 := hg.cell 0
  have c1 := hg.cell 1
  simp at c0 c1
  have HG := Lib.hid hg
  have HA := Lib.hid hra
  have HB := Lib.hid hrb
  have HAB := Lib.hid (show (la ++ lb).map (Value.int .i64) = la.map (Value.int .i64) ++ lb.map (Value.int .i64) by rw [List.map_append])
  clear hg hra hrb
  generalize (la ++ lb).map (Value.int .i64) = LL at HAB ⊢
  have e1 : IntKind.i64.wrap (la.length : Int) = la.length := IntWalk.i64_in _ (by omega)
  have e2 : IntKind.i64.wrap ((la.length : Int) + (lb.length : Int)) = ((la.length + lb.length : Nat) : Int) := by rw [IntWalk.i64_in _ (by omega)]; omega
  have p1 : ¬ ((la.length : Int) < 0) := by omega
  have p2 : ¬ (((la.length + lb.length : Nat) : Int) < 0) := by omega
  go_enter Tryz.func145, Tryz.ntmps145
  go_wp2
  refine wp_loop_rounds 3 ?_
  rw [rounds_succ]
  go_wp2
  rw [rounds_succ]
  go_wp2
  rw [rounds_succ]
  go_wp2_with fail
  refine (grow_nil (la.length + lb.length) (by omega) _).mono ?_
  rintro e w1 ⟨v1, rfl, hown1, hb1⟩
  clear c0 c1
  have BG := HG.out.keep hb1
  have c0 := BG.cell 0
  have c1 := BG.cell 1
  simp at c0 c1
  obtain ⟨A1, k1, rfl⟩ := ownsRow_slice hown1
  go_wp2
  refine wp_loop_rounds 3 ?_
  rw [rounds_succ]
  go_upto_region 13 with (fail)
  go_wp2_with (at_builtin; refine wpList_appR _ rfl _ _ rfl w.heap.size _ _ _ rfl hown1 A ca la rfl (HA.out.keep hb1) (by omega) hb1.size ?_)
  intro v2 w2 hown2 hg2
  obtain ⟨A2, k2, rfl⟩ := ownsRow_slice hown2
  have hb2 : Below w.heap.size w w2 := hb1.grown hg2 hb1.size (fun b hb => by have := (hown1.lt b hb).1; omega)
  have BG2 := HG.out.keep hb2
  clear c0 c1 BG hg2 hown1
  have c0 := BG2.cell 0
  have c1 := BG2.cell 1
  simp at c0 c1
  go_upto_region 14 with (fail)
  go_wp2
  rw [rounds_succ]
  go_upto_region 13 with (fail)
  go_wp2_with (at_builtin; refine wpList_appR _ rfl _ _ rfl w.heap.size _ _ _ rfl hown2 B cb lb rfl (HB.out.keep hb2) (by omega) hb2.size ?_)
  intro v3 w3 hown3 hg3
  obtain ⟨A3, k3, rfl⟩ := ownsRow_slice hown3
  have hb3 : Below w.heap.size w w3 := hb2.grown hg3 hb2.size (fun b hb => by have := (hown2.lt b hb).1; omega)
  clear c0 c1 BG2 hg3 hown2
  go_upto_region 14 with (fail)
  go_wp2
  rw [rounds_succ]
  go_wp2
  go_ret
  exact ⟨_, rfl, by rw [HAB.out]; simpa using hown3, hb3⟩

set_option maxHeartbeats 1000000 in
theorem compact_nil (A : Option Addr) (c : Nat) (w : World) : Calls Tryz.prog 151 #[.slice A 0 c] w (Pure (.slice A 0 c) w) := by
  go_enter Tryz.func151, Tryz.ntmps151
  go_wp2
  go_ret
  exact ⟨rfl, rfl⟩

/-! ### the order of a cube's members -/
theorem farW_abs {x : Int} (h : Venn.mOk x = true) : farW x = Venn.absI x := by
  have := Venn.mOk_iff.1 h
  unfold farW Venn.absI
  rw [IntWalk.wrap64_in (-x) (by omega)]
  split <;> omega
theorem cmpF_lt (x y : Int) : ltOf cmpF x y = decide (farW x < farW y ∨ (farW x = farW y ∧ x < y)) := by
  unfold ltOf cmpF orI cmpI
  by_cases h1 : farW x < farW y
  · rw [if_pos h1, decide_eq_true (p := (farW x < farW y ∨ (farW x = farW y ∧ x < y))) (.inl h1)]
    rfl
  · rw [if_neg h1]
    by_cases h2 : farW y < farW x
    · rw [if_pos h2, decide_eq_false (p := (farW x < farW y ∨ (farW x = farW y ∧ x < y))) (by omega)]
      rfl
    · rw [if_neg h2, if_pos rfl]
      by_cases h3 : x < y
      · rw [if_pos h3, decide_eq_true (p := (farW x < farW y ∨ (farW x = farW y ∧ x < y))) (by omega)]; rfl
      · rw [if_neg h3, decide_eq_false (p := (farW x < farW y ∨ (farW x = farW y ∧ x < y))) (by omega)]
        by_cases h4 : y < x
        · rw [if_pos h4]; rfl
        · rw [if_neg h4]; rfl
theorem cmpF_swo : SWO (ltOf cmpF) where
  irrefl x := by rw [cmpF_lt]; simp
  trans x y z h1 h2 := by rw [cmpF_lt] at *; simp only [decide_eq_true_eq] at *; omega
  ntrans x y z h1 h2 := by rw [cmpF_lt] at *; simp only [decide_eq_false_iff_not] at *; omega
theorem cmpF_total (x y : Int) (h1 : ltOf cmpF x y = false) (h2 : ltOf cmpF y x = false) : x = y := by
  rw [cmpF_lt] at *
  simp only [decide_eq_false_iff_not] at *
  omega
theorem cmpF_key (x y : Int) (hx : Venn.mOk x = true) (hy : Venn.mOk y = true) : ltOf cmpF x y = true ↔ Venn.keyM x < Venn.keyM y := by
  rw [cmpF_lt, farW_abs hx, farW_abs hy, decide_eq_true_eq]
  have h1 := Venn.mOk_iff.1 hx
  have h2 := Venn.mOk_iff.1 hy
  unfold Venn.absI Venn.keyM
  split <;> split <;> split <;> split <;> omega
theorem merge_lays (g off n : Nat) (w : World) : CmpLays1 Tryz.prog 147 #[] (Value.int .i64) cmpF g off n w := by
  intro m os dk _ x y
  refine (merge_cmp x y _).mono ?_
  rintro e w' ⟨he, hw⟩
  refine ⟨he, 0, #[.cells #[.int .i64 (cmpI (farW x) (farW y)), .int .i64 (cmpI x y)] 3], ?_⟩
  rw [hw]
  exact alloc_eq_grow _ _

theorem sort_cube (g cap : Nat) (zs : List Int) (w : World) (hH : Holds (Value.int .i64) w g 0 zs.toArray) (hblk : g < w.heap.size) (hsz : zs.length ≤ 1000) :
    Calls Tryz.prog 146 #[.slice (some ⟨g, 0, none⟩) zs.length cap, .func (.func 147) #[] #[]] w fun e w' => e = .returned (.tuple #[]) ∧ ∃ n os, w' = grow (putRow (Value.int .i64) (Sort.ahead w n) g 0 (zs.mergeSort fun x y => !ltOf cmpF y x).toArray) os :=
  Any.slices_SortFunc_total sortF (Value.int .i64) (fun _ => rfl) cmpF cmpF_swo 147 #[] g 0 cap zs.toArray w (enters_of Tryz.func147 (by kernel_rfl) rfl) (merge_lays _ _ _ _) hH hblk (by show zs.length < _; omega) cmpF_total
theorem sort_cube_none (p : Option Addr) (cap : Nat) (fv : Value) (w : World) : Calls Tryz.prog 146 #[.slice p 0 cap, fv] w fun e w' => e = .returned (.tuple #[]) ∧ w' = w :=
  AnyF.slices_SortFunc_none { sortF with } p cap fv w
theorem compact_cube (g cap : Nat) (zs : List Int) (w : World) (hH : Holds (Value.int .i64) w g 0 zs.toArray) (hsz : zs.length ≤ 1000) (hcap : zs.length ≤ cap) :
    Calls Tryz.prog 151 #[.slice (some ⟨g, 0, none⟩) zs.length cap] w fun e w' => e = .returned (.slice (some ⟨g, 0, none⟩) (Lib.compactUpTo zs.toArray zs.length).length cap) ∧
      ∃ q, w' = putRow (Value.int .i64) (Sort.ahead w q) g 0 (Lib.compactUpTo zs.toArray zs.length ++ List.replicate (zs.length - (Lib.compactUpTo zs.toArray zs.length).length) 0).toArray :=
  AnyE.slices_Compact compL (Value.int .i64) (fun _ => rfl) (EqlAt.intD _ _ _) (NeqAt.intD _ _ _) 0 (fun w => Tryz.zeroValue3 w) g 0 cap zs.toArray w hH (by show zs.length ≤ _; omega) hcap

def adjFrom (l : List Int) (i : Nat) : Bool := ((List.range l.length).drop i).any fun i => decide (1 ≤ i) && (l[i]! == -l[i - 1]!)
theorem adjFrom_one (l : List Int) : Venn.adjBad l = adjFrom l 1 := by
  unfold Venn.adjBad adjFrom
  cases l with
  | nil => rfl
  | cons x r => rw [List.length_cons, List.range_succ_eq_map]; simp
theorem adjFrom_step (l : List Int) (j : Nat) (h : j + 1 < l.length) : adjFrom l (j + 1) = ((l[j + 1] == -l[j]) || adjFrom l (j + 1 + 1)) := by
  unfold adjFrom
  rw [List.drop_eq_getElem_cons (by simpa using h), List.any_cons, List.getElem_range, getElem!_pos l (j + 1) h, show j + 1 - 1 = j from rfl, getElem!_pos l j (by omega)]
  simp
theorem adjFrom_end (l : List Int) (j : Nat) (h : l.length ≤ j) : adjFrom l j = false := by
  unfold adjFrom
  rw [List.drop_eq_nil_of_le (by simpa using h)]
  rfl

theorem adr0 (g j : Nat) : (⟨g, 0, none⟩ : Addr).add j = ⟨g, j, none⟩ := by unfold Addr.add; split <;> simp_all
theorem mem_compact {d : Array Int} {m : Nat} {x : Int} (h : x ∈ Lib.compactUpTo d m) : ∃ j, j < m ∧ d[j]! = x := by
  unfold Lib.compactUpTo at h
  obtain ⟨j, hj, rfl⟩ := List.mem_map.1 h
  exact ⟨j, List.mem_range.1 (List.mem_filter.1 hj).1, rfl⟩
theorem compact_len (d : Array Int) (m : Nat) : (Lib.compactUpTo d m).length ≤ m := by
  unfold Lib.compactUpTo
  rw [List.length_map]
  exact Nat.le_trans (List.length_filter_le _ _) (by rw [List.length_range]; exact Nat.le_refl _)
theorem hown_cap {w : World} {base : Nat} {e : TypeId} {size g n cap : Nat} {xs : List Value} (h : w.ownsRow base e size (.slice (some ⟨g, 0, none⟩) n cap) n xs) : cap ≤ maxLen := by
  rcases h.2 with ⟨h1, _⟩ | ⟨_, cap', _, h1, _, _, _, h2, _⟩
  · cases h1
  · injection h1 with _ _ h1
    rw [h1]; exact h2
def MergePost (J : Option (List Int)) (w : World) (e : Ending) (w' : World) : Prop :=
  Below w.heap.size w w' ∧ ((J = none ∧ e = .returned (.tuple #[.slice none 0 0, .bool false])) ∨ ∃ c v, J = some c ∧ e = .returned (.tuple #[v, .bool true]) ∧ IsInts w' v c ∧ ∀ b, v.ownBlock = some b → w.heap.size ≤ b ∧ b < w'.heap.size)
set_option maxHeartbeats 2000000 in
set_option maxRecDepth 100000 in
theorem cubes_merge (sa sb : Value) (la lb : List Int) (w : World) (ha : IsInts w sa la) (hb : IsInts w sb lb) (h1 : la.length ≤ 100) (h2 : lb.length ≤ 100) (ma : ∀ x ∈ la, Venn.mOk x = true) (mb : ∀ x ∈ lb, Venn.mOk x = true) :
    Calls Tryz.prog 131 #[sa, sb] w (MergePost (Venn.joinV la lb) w) := by
  have HJ := Lib.hid (Venn.merge_join cmpF_swo cmpF_key ma mb)
  have HM := Lib.hid (show ∀ x ∈ la ++ lb, Venn.mOk x = true from fun x hx => (List.mem_append.1 hx).elim (ma x) (mb x))
  obtain ⟨A, ca, rfl, hra, q1, q2⟩ := ha
  obtain ⟨B, cb, rfl, hrb, q3, q4⟩ := hb
  have hb0 : Below w.heap.size w (w.alloc (.cells #[.slice A la.length ca, .slice B lb.length cb] 30)) := by (repeat' (first | (with_reducible exact Below.refl _ _) | (with_reducible assumption) | (with_reducible refine Below.next ?_ (by with_reducible assumption)) | (with_reducible refine Below.drew ?_) | (with_reducible refine Below.laid ?_ _) | (with_reducible refine Below.setCell ?_ ?_ _) | (with_reducible refine size_of ?_) | (with_reducible refine Nat.le_succ_of_le ?_) | go_size))
  have HC := Lib.hid (concat_two w.heap.size 30 _ _ la lb _ (Blk.new w 30 #[.slice A la.length ca, .slice B lb.length cb]) (IsInts.keep ⟨A, ca, rfl, hra, q1, q2⟩ hb0) (IsInts.keep ⟨B, cb, rfl, hrb, q3, q4⟩ hb0) h1 h2)
  have hn : la.length + lb.length = (la ++ lb).length := List.length_append.symm
  rw [hn] at HC HJ
  have hlen : (la ++ lb).length ≤ 200 := by omega
  generalize Venn.joinV la lb = J at HJ ⊢
  generalize la ++ lb = zs at HC HJ HM hlen
  clear hn ma mb hra hrb h1 h2 q1 q2 q3 q4
  by_cases h0 : zs.length = 0
  · have hz : zs = [] := List.eq_nil_of_length_eq_zero h0
    subst hz
    have HJ := Lib.hid (show J = some [] from HJ.out)
    go_enter Tryz.func131, Tryz.ntmps131
    go_upto_region 1 with (fail)
    go_wp2_with fail
    refine (HC.out).mono ?_
    rintro e w1 ⟨v1, rfl, hown1, hb1⟩
    obtain ⟨A1, k1, rfl⟩ := ownsRow_slice hown1
    have hI := IsInts.of_own (l := []) hown1
    have hlt := fun b e => hown1.lt b e
    have hq := hb0.trans (hb1.mono (by simp))
    clear hown1
    go_wp2_with fail
    refine (sort_cube_none _ _ _ _).mono ?_
    rintro e w2 ⟨rfl, rfl⟩
    go_wp2_with fail
    refine (compact_nil _ _ _).mono ?_
    rintro e w2 ⟨rfl, rfl⟩
    go_wp2
    refine wp_loop_rounds 1 ?_
    rw [rounds_succ]
    go_wp2
    go_ret2
    refine ⟨hq, .inr ⟨[], _, HJ.out, rfl, hI, fun b e => ?_⟩⟩
    have := hlt b e
    simp at this
    omega
  · go_enter Tryz.func131, Tryz.ntmps131
    go_upto_region 1 with (fail)
    go_wp2_with fail
    refine (HC.out).mono ?_
    rintro e w1 ⟨v1, rfl, hown1, hb1⟩
    obtain ⟨g, cap, cur, rfl, hg, hB, r1, r2, r3, r4⟩ := own_cons hown1 (by omega)
    have hH : Holds (Value.int .i64) w1 g 0 zs.toArray := holds_of_block_i hB (by simpa using r4)
    have hgl := hB.lt
    have hq := hb0.trans (hb1.mono (by simp))
    have hgw : w.heap.size ≤ g := by simp at hg; omega
    clear hb1 hb0 hown1
    go_wp2_with fail
    refine (sort_cube g cap zs _ hH hgl (by omega)).mono ?_
    rintro e w2 ⟨rfl, nn, os, rfl⟩
    have HS := Lib.hid (show (zs.mergeSort fun x y => !ltOf cmpF y x).length = zs.length from List.length_mergeSort _)
    have HMS := Lib.hid (show ∀ x ∈ (zs.mergeSort fun x y => !ltOf cmpF y x), Venn.mOk x = true from fun x hx => HM.out x ((List.mergeSort_perm _ _).mem_iff.1 hx))
    have hown2 := ownsRow_sorted_i (os := os) (n := nn) (ts := (zs.mergeSort fun x y => !ltOf cmpF y x)) HS.out hg hB r1 r2 r3
    have hb2 := hq.grown (grownBy_sorted_i (w := w1) (g := g) (n := nn) (os := os) (zs.mergeSort fun x y => !ltOf cmpF y x).toArray) hq.size (fun j hj => by cases hj; exact hgw)
    clear hH hB hq hgl
    revert hown2 hb2
    change World.ownsRow (grow (putRow (Value.int .i64) _ _ _ _) _) _ _ _ _ _ _ → Below _ _ (grow (putRow (Value.int .i64) _ _ _ _) _) → _
    generalize (zs.mergeSort fun x y => !ltOf cmpF y x) = ss at HS HMS HJ ⊢
    generalize grow (putRow (Value.int .i64) _ _ _ _) _ = w3
    intro hown2 hb2
    clear HM HC
    generalize zs.length = n at HS HJ hown2 h0 hlen r1 r4 ⊢
    obtain rfl := HS.out
    clear HS
    obtain ⟨g', cap', cur', hv', hg', hB', r1', r2', r3', r4'⟩ := own_cons hown2 (by omega)
    injection hv' with hv1 hv2 hv3
    injection hv1 with hv1
    injection hv1 with hv1
    subst hv1 hv3
    have hH : Holds (Value.int .i64) w3 g 0 ss.toArray := holds_of_block_i hB' (by simpa using r4')
    clear r1 r2 r3 r4 hown2
    have HR := Lib.hid r1'
    have hmm := Lib.hid (show ∀ x ∈ Lib.compactUpTo ss.toArray ss.length, Venn.mOk x = true from fun x hx => by
      obtain ⟨j, hj, rfl⟩ := mem_compact hx
      exact HMS.out _ (by simp [getElem!_pos, hj]))
    have hcl := Lib.hid (compact_len ss.toArray ss.length)
    go_wp2_with fail
    refine (compact_cube g cap ss _ hH (by omega) r1').mono ?_
    rintro e w4 ⟨rfl, q, rfl⟩
    have hown3 := ownsRow_sorted_i (os := #[]) (n := q) (ss := ss) (ts := Lib.compactUpTo ss.toArray ss.length ++ List.replicate (ss.length - (Lib.compactUpTo ss.toArray ss.length).length) 0) (by have := hcl.out; simp; omega) hg' hB' r1' r2' r3'
    have hb3 := hb2.grown (grownBy_sorted_i (w := w3) (g := g) (n := q) (os := #[]) (Lib.compactUpTo ss.toArray ss.length ++ List.replicate (ss.length - (Lib.compactUpTo ss.toArray ss.length).length) 0).toArray) hb2.size (fun j hj => by cases hj; exact hgw)
    rw [grow_empty] at hown3 hb3
    clear hH hB' r1' r2' r3' r4' hb2
    generalize Lib.compactUpTo ss.toArray ss.length = cs at hown3 hb3 HJ hmm hcl ⊢
    revert hown3 hb3
    change World.ownsRow (putRow (Value.int .i64) _ _ _ _) _ _ _ _ _ _ → Below _ _ (putRow (Value.int .i64) _ _ _ _) → _
    generalize putRow (Value.int .i64) _ _ _ _ = w5
    intro hown3 hb3
    have hlt3 := hown3.lt g rfl
    have hcl' := hcl.out
    have hsl : ss.length = cs.length + (ss.length - cs.length) := by omega
    have hI : IsInts w5 (.slice (some ⟨g, 0, none⟩) cs.length cap) cs := by
      refine ⟨_, _, rfl, fun j u hj => ⟨_, rfl, ?_⟩, Nat.le_trans hcl' HR.out, hown_cap hown3⟩
      refine hown3.cells (g := g) rfl j u ?_
      rw [List.map_append, List.getElem?_append_left (by rw [List.length_map]; have := (List.getElem?_eq_some_iff.1 hj).1; simpa using this)]
      exact hj
    have HI := Lib.hid hI
    have HL := Lib.hid (show g < w5.heap.size from hlt3.2)
    obtain ⟨A5, c5, e5, hrd, _, _⟩ := hI
    injection e5 with e5 _ e6
    subst e5 e6
    have HRD := Lib.hid hrd
    have hcs : cs.length ≤ 1000 := by omega
    have HJ := Lib.hid (show J = if adjFrom cs 1 = true then none else some cs by rw [← adjFrom_one]; exact HJ.out)
    clear hown3 hrd hlt3 hcl hsl hcl' HMS HR
    go_wp2
    go_loopw [7] (fun i wr => ∃ (k qq : Nat), 1 ≤ k ∧ i = .int .i64 k ∧ (J = if adjFrom cs k = true then none else some cs) ∧ wr = w5.drewN qq ∧ (k ≤ cs.length ∨ k = 1)) (fun i _ => cs.length - (intOf i).toNat)
    case atStart => exact ⟨1, 0, Nat.le_refl _, rfl, HJ.out, rfl, .inr rfl⟩
    case round =>
      obtain ⟨k, qq, hk1, rfl, hJ, rfl, hkl⟩ := hrel
      obtain ⟨j, rfl⟩ : ∃ j, k = j + 1 := ⟨k - 1, by omega⟩
      by_cases hlt : j + 1 < cs.length
      · obtain ⟨a1, e1, d1⟩ := HRD.out.int hlt
        obtain ⟨a2, e2, d2⟩ := HRD.out.int (show j < cs.length by omega)
        cases e1; cases e2
        rw [adr0] at d1 d2
        have m1 := Venn.mOk_iff.1 (hmm.out _ (List.getElem_mem hlt))
        have m2 := Venn.mOk_iff.1 (hmm.out _ (List.getElem_mem (show j < cs.length by omega)))
        rw [adjFrom_step cs j hlt] at hJ
        generalize cs[j + 1] = x at d1 m1 hJ
        generalize cs[j] = y at d2 m2 hJ
        have g1 : ((j + 1 : Nat) : Int) < (cs.length : Int) := by omega
        have g2 : (0 : Int) ≤ ((j + 1 : Nat) : Int) := by omega
        have g3 : IntKind.i64.wrap (((j + 1 : Nat) : Int) - 1) = (j : Int) := by rw [IntWalk.i64_in _ (by omega)]; omega
        have g4 : (0 : Int) ≤ (j : Int) := by omega
        have g5 : (j : Int) < (cs.length : Int) := by omega
        have g6 : wrap64 (-y) = -y := IntWalk.wrap64_in _ (by omega)
        by_cases hxy : x = -y
        · subst hxy
          have HJ := Lib.hid (show J = none by rw [hJ, beq_self_eq_true]; rfl)
          clear hJ m1 m2
          go_wp2_with fail
          go_region
          go_wp2
          go_ret2
          exact ⟨below_drewN hb3 _, .inl ⟨HJ.out, rfl⟩⟩
        · have HE := Lib.hid (show (x == -y) = false from beq_eq_false_iff_ne.2 hxy)
          have HJ := Lib.hid (show J = if adjFrom cs (j + 1 + 1) = true then none else some cs by rw [hJ, HE.out, Bool.false_or])
          clear hJ m1 m2
          go_wp2_with fail
          go_region
          go_wp2
          go_roundw
          case rel => exact ⟨j + 1 + 1, qq + 1, by omega, by go_num, HJ.out, rfl, .inl (by omega)⟩
          case measure => simp [intOf]; omega
      · have HJ := Lib.hid (show J = some cs by rw [hJ, adjFrom_end cs (j + 1) (by omega)]; rfl)
        have g1 : ¬ ((j + 1 : Nat) : Int) < (cs.length : Int) := by omega
        clear hJ
        go_wp2
        go_ret2
        refine ⟨below_drewN hb3 _, .inr ⟨cs, _, HJ.out, rfl, HI.out.keep (below_drewN (Below.refl _ _) _), fun b e => ?_⟩⟩
        simp [Value.ownBlock] at e
        subst e
        exact ⟨hgw, HL.out⟩
end Go.Proofs.YtjnjgcibhjdmdaaGreatDoor

namespace Go.Proofs.YtjnjgcibhjdmdaaGreatDoor
open Go.RowKit

theorem OwnL.rd {base : Nat} {w : World} {A : Option Addr} {n c : Nat} {p : List LV} (h : OwnL base w (.slice A n c) p) : Rd w A (lCells p) := by
  have hh := h.own
  intro j u hj
  rcases hh.2 with ⟨h1, h0⟩ | ⟨g, cap, cur, h1, _⟩
  · have hp : p = [] := List.eq_nil_of_length_eq_zero h0
    subst hp
    simp [lCells] at hj
  · injection h1 with h1 h2 h3
    subst h1
    exact ⟨_, rfl, hh.cells (g := g) rfl j u hj⟩
set_option maxHeartbeats 1000000 in
theorem add_same (x : List Int) (xv : Value) (l : List Int) (lv : Value) (b : Nat) (w : World) (hb : w.cell? ⟨b, 0, none⟩ = some lv) (hx : IsInts w xv x) (hl : IsInts w lv l) : Calls Tryz.prog 153 #[xv, .pointer (some ⟨b, 0, none⟩)] w (Keeps (.bool (x == l)) w) := by
  have HC := Lib.hid (slices_Equal xv lv x l w hx hl)
  obtain ⟨A, c, rfl, _⟩ := hx
  obtain ⟨B, d, rfl, _⟩ := hl
  generalize (x == l) = E at HC ⊢
  go_enter Tryz.func153, Tryz.ntmps153
  go_wp2_with (go_at_call 154; refine (HC.out).mono ?_; rintro e w1 ⟨rfl, hb1⟩)
  go_ret
  exact ⟨rfl, hb1⟩
theorem any_beq (p : List LV) (c : List Int) : (p.any fun x => x.1 == c) = (lVals p).contains c := by
  unfold lVals
  induction p with
  | nil => rfl
  | cons x r ih =>
    simp only [List.any_cons, List.map_cons, List.contains_cons, ih]
    rw [show (x.1 == c) = (c == x.1) from Bool.eq_iff_iff.2 (by rw [beq_iff_eq, beq_iff_eq]; exact ⟨Eq.symm, Eq.symm⟩)]

/-- The lists do not lie in block B. -/
def Off (B : Nat) (p : List LV) : Prop := ∀ x ∈ p, x.1 ≠ [] → ∀ b, x.2.ownBlock = some b → b ≠ B
/-- A slice that reads as L, none of it in block B. -/
def ListsOff (B : Nat) (w : World) (v : Value) (L : List (List Int)) : Prop :=
  ∃ A c p, v = .slice A p.length c ∧ lVals p = L ∧ Rd w A (lCells p) ∧ LOk w p ∧ p.length ≤ c ∧ c ≤ maxLen ∧ Off B p ∧ (p ≠ [] → ∀ b, v.ownBlock = some b → b ≠ B)
theorem ListsOff.lists {B : Nat} {w : World} {v : Value} {L : List (List Int)} (h : ListsOff B w v L) : IsLists w v L := by
  obtain ⟨A, c, p, h1, h2, h3, h4, h5, h6, _⟩ := h
  exact ⟨A, c, p, h1, h2, h3, h4, h5, h6⟩
theorem ListsOff.keep {B : Nat} {w w' : World} {v : Value} {L : List (List Int)} (h : ListsOff B w v L) (hb : Below w.heap.size w w') : ListsOff B w' v L := by
  obtain ⟨A, c, p, h1, h2, h3, h4, h5, h6, h7, h8⟩ := h
  exact ⟨A, c, p, h1, h2, h3.keep hb, h4.keep hb, h5, h6, h7, h8⟩
theorem ListsOff.but {B : Nat} {w w' : World} {v : Value} {L : List (List Int)} (h : ListsOff B w v L) (hb : But (fun b => b = B) w w') : ListsOff B w' v L := by
  obtain ⟨A, c, p, rfl, h2, h3, h4, h5, h6, h7, h8⟩ := h
  refine ⟨A, c, p, rfl, h2, fun j u hj => ?_, fun x hx => (h4 x hx).but' hb (h7 x hx), h5, h6, h7, h8⟩
  obtain ⟨ad, rfl, hcell⟩ := h3 j u hj
  refine ⟨ad, rfl, cell_but hb hcell ?_⟩
  rw [block_of_add]
  refine h8 ?_ _ rfl
  intro e
  subst e
  simp [lCells] at hj
theorem ListsOff.of_own {B base : Nat} {w : World} {v : Value} {p : List LV} (h : OwnL base w v p) (ho : Off B p) (hB : B < base) : ListsOff B w v (lVals p) := by
  obtain ⟨A, c, e⟩ := h.slice
  subst e
  refine ⟨A, c, p, rfl, rfl, h.rd, h.ok, ?_, ?_, ho, fun _ b e => ?_⟩
  · rcases h.own.2 with ⟨h1, h0⟩ | ⟨g, cap, cur, h1, _, _, h2, _⟩
    · omega
    · injection h1 with _ _ h1; omega
  · rcases h.own.2 with ⟨h1, h0⟩ | ⟨g, cap, cur, h1, _, _, _, h2, _⟩
    · injection h1 with _ _ h1; rw [h1]; simp [maxLen]
    · injection h1 with _ _ h1; omega
  · have := (h.own.lt b e).1
    omega
def AddPost (base : Nat) (v : Value) (p : List LV) (y : LV) (L : List (List Int)) (w : World) (e : Ending) (w' : World) : Prop :=
  ∃ v' p', e = .returned v' ∧ OwnL base w' v' p' ∧ lVals p' = L ∧ (∀ x ∈ p', x ∈ p ∨ x = y) ∧ But (fun b => v.ownBlock = some b) w w' ∧ (v'.ownBlock = v.ownBlock ∨ ∀ b, v'.ownBlock = some b → w.heap.size ≤ b)
set_option maxHeartbeats 2000000 in
theorem cubes_add (base : Nat) (v : Value) (p : List LV) (y : LV) (w : World) (hown : OwnL base w v p) (hy : IsInts w y.2 y.1) (hf : y.1 ≠ [] → ∀ b, y.2.ownBlock = some b → v.ownBlock ≠ some b) (hn : p.length < 100000) (hbase : base ≤ w.heap.size) :
    Calls Tryz.prog 132 #[v, y.2] w (AddPost base v p y (Venn.putV (lVals p) y.1) w) := by
  obtain ⟨c, yv⟩ := y
  simp only at hy hf ⊢
  obtain ⟨A, k, rfl⟩ := hown.slice
  have hb0 : Below w.heap.size w (w.alloc (.cells #[yv] 30)) := by (repeat' (first | (with_reducible exact Below.refl _ _) | (with_reducible assumption) | (with_reducible refine Below.next ?_ (by with_reducible assumption)) | (with_reducible refine Below.drew ?_) | (with_reducible refine Below.laid ?_ _) | (with_reducible refine Below.setCell ?_ ?_ _) | (with_reducible refine size_of ?_) | (with_reducible refine Nat.le_succ_of_le ?_) | go_size))
  have B0 := Blk.new w 30 #[yv]
  have hone := ints_one hy
  have HO := Lib.hid (hown.keep hb0)
  have HY := Lib.hid (hy.keep hb0)
  have hr : Rd (w.alloc (.cells #[yv] 30)) A (lCells p) := HO.out.rd
  have HC := Lib.hid (containsFunc_lists 153 #[.pointer (some ⟨w.heap.size, 0, none⟩)] (enters_of Tryz.func153 (by kernel_rfl) rfl) A k p (fun x => x == c) _ hr
    (fun x hx W hW => add_same x.1 x.2 c yv w.heap.size W (cell_keep hW (B0.cell 0)) ((HO.out.ok x hx).keep hW) (HY.out.keep hW)) (by unfold maxLen; omega))
  rw [any_beq] at HC
  obtain ⟨B, d, rfl, hyy⟩ := hy
  clear hyy hr
  have HF := Lib.hid hf
  clear hown hf
  by_cases hin : (lVals p).contains c = true
  · have HP := Lib.hid (show Venn.putV (lVals p) c = lVals p by unfold Venn.putV; rw [if_pos hin])
    rw [hin] at HC
    clear hin B0
    go_enter Tryz.func132, Tryz.ntmps132
    go_wp2_with (go_at_call 152; refine (HC.out).mono ?_; rintro e w1 ⟨rfl, hb1⟩)
    go_ret
    exact ⟨_, p, rfl, HO.out.keep hb1, HP.out.symm, fun x hx => .inl hx, But.of_below (Below.next hb0 hb1), .inl rfl⟩
  · have HP := Lib.hid (show Venn.putV (lVals p) c = lVals p ++ [c] by unfold Venn.putV; rw [if_neg hin])
    rw [Bool.not_eq_true] at hin
    rw [hin] at HC
    clear hin
    have HB := Lib.hid B0
    clear B0
    go_enter Tryz.func132, Tryz.ntmps132
    go_wp2_with fail
    refine (HC.out).mono ?_
    rintro e w1 ⟨rfl, hb1⟩
    have B1 := (HB.out.keep hb1).cell 0
    have hq := Below.next hb0 hb1
    have hsz : base ≤ w1.heap.size := Nat.le_trans hbase hq.size
    have HO1 := Lib.hid (HO.out.keep hb1)
    have HY1 := Lib.hid (HY.out.keep hb1)
    simp at B1
    go_upto_region 3 with (fail)
    have hb2 : Below w1.heap.size w1 (w1.alloc (.cells #[.slice B c.length d] 30)) := by (repeat' (first | (with_reducible exact Below.refl _ _) | (with_reducible assumption) | (with_reducible refine Below.next ?_ (by with_reducible assumption)) | (with_reducible refine Below.drew ?_) | (with_reducible refine Below.laid ?_ _) | (with_reducible refine Below.setCell ?_ ?_ _) | (with_reducible refine size_of ?_) | (with_reducible refine Nat.le_succ_of_le ?_) | go_size))
    have B2 := (Blk.new w1 30 #[.slice B c.length d]).cell 0
    go_wp2_with (at_builtin; refine wpList_appL _ rfl _ _ rfl base _ p rfl (HO1.out.keep hb2) w1.heap.size 1 (c, .slice B c.length d) rfl B2 (HY1.out.keep hb2) HF.out (by omega) (Nat.le_trans hsz hb2.size) ?_)
    intro v' w3 hown3 hg3 hat3
    have hq2 := Below.next hq hb2
    have hbut : But (fun b => (Value.slice A p.length k).ownBlock = some b) w w3 := (But.of_below hq2).trans (But.of_grown hg3)
    have hs2 := hq2.size
    go_wp2
    go_ret
    refine ⟨v', _, rfl, hown3, by rw [lVals_app, HP.out]; rfl, fun x hx => (List.mem_append.1 hx).imp id (fun h => List.mem_singleton.1 h), hbut, ?_⟩
    rcases hat3 with h | h
    · exact .inl h
    · refine .inr fun b e => ?_
      rw [h] at e
      injection e with e
      have hs3 : (w1.alloc (.cells #[.slice B c.length d] 30)).heap.size = w1.heap.size + 1 := by simp
      omega

theorem cubes_checked (v : Value) (n c : Nat) (A : Option Addr) (hv : v = .slice A n c) (w : World) : Calls Tryz.prog 133 #[v] w (Pure (if 40 < n then .tuple #[.slice none 0 0, errV 4] else .tuple #[v, errV 0]) w) := by
  subst hv
  by_cases h : 40 < n
  · rw [if_pos h, errV_ne (by decide)]
    have h' : (40 : Int) < (n : Int) := by omega
    go_enter Tryz.func133, Tryz.ntmps133
    go_wp2
    go_ret2
    exact ⟨rfl, rfl⟩
  · rw [if_neg h, errV_zero rfl]
    have h' : ¬ (40 : Int) < (n : Int) := by omega
    go_enter Tryz.func133, Tryz.ntmps133
    go_wp2
    go_ret2
    exact ⟨rfl, rfl⟩

theorem and1_grow {x : List Int} : ∀ (b o : List (List Int)), o.length ≤ (Venn.and1 x o b).length := by
  intro b
  induction b with
  | nil => intro o; exact Nat.le_refl _
  | cons y r ih =>
    intro o
    rw [Venn.and1]
    cases hj : Venn.joinV x y with
    | none => exact ih o
    | some c => exact Nat.le_trans (Venn.putV_len o c).2 (ih _)
theorem and2_grow {b : List (List Int)} : ∀ (a o : List (List Int)), o.length ≤ (Venn.and2 b o a).length := by
  intro a
  induction a with
  | nil => intro o; exact Nat.le_refl _
  | cons y r ih => intro o; exact Nat.le_trans (and1_grow _ _) (ih _)
theorem lVals_at {p : List LV} {k : Nat} {x : LV} (h : p[k]? = some x) : (lVals p).drop k = x.1 :: (lVals p).drop (k + 1) := by
  obtain ⟨hk, rfl⟩ := List.getElem?_eq_some_iff.1 h
  have : k < (lVals p).length := by rw [lVals_len]; exact hk
  rw [List.drop_eq_getElem_cons this]
  simp [lVals]
theorem lVals_mem {p : List LV} {x : LV} (h : x ∈ p) : x.1 ∈ lVals p := List.mem_map_of_mem h
/-- What a function answers that makes cubes: the list, or that there would be too many. -/
def CubesPost (B : Nat) (J : Option (List (List Int))) (w : World) (e : Ending) (w' : World) : Prop :=
  Below w.heap.size w w' ∧ ((J = none ∧ e = .returned (.tuple #[.slice none 0 0, errV 4])) ∨ ∃ v p, J = some (lVals p) ∧ e = .returned (.tuple #[v, errV 0]) ∧ OwnL w.heap.size w' v p ∧ Off B p)
/-- A row of the call's own between two rounds. -/
structure RowAt (w wr : World) (v : Value) (p : List LV) : Prop where
  own : OwnL w.heap.size wr v p
  below : Below w.heap.size w wr
theorem RowAt.add {w wr w2 : World} {v v' : Value} {p p' : List LV} (h : RowAt w wr v p) (hown : OwnL w.heap.size w2 v' p') (hb : But (fun b => v.ownBlock = some b) wr w2) : RowAt w w2 v' p' :=
  ⟨hown, h.below.trans (hb.below h.below.size fun b e => (h.own.own.lt b e).1)⟩
theorem RowAt.keep {w wr w2 : World} {v : Value} {p : List LV} (h : RowAt w wr v p) (hb : Below wr.heap.size wr w2) : RowAt w w2 v p := ⟨h.own.keep hb, Below.next h.below hb⟩
set_option maxHeartbeats 4000000 in
set_option maxRecDepth 100000 in
theorem cubes_both (O : Nat) (sa sb : Value) (la lb : List (List Int)) (w : World) (hO : O < w.heap.size) (ha : IsLists w sa la) (hb : IsLists w sb lb) (h1 : la.length ≤ 40) (h2 : lb.length ≤ 40) (ma : ∀ c ∈ la, ∀ x ∈ c, Venn.mOk x = true) (mb : ∀ c ∈ lb, ∀ x ∈ c, Venn.mOk x = true)
    (na : ∀ c ∈ la, c.length ≤ 100) (nb : ∀ c ∈ lb, c.length ≤ 100) :
    Calls Tryz.prog 114 #[sa, sb] w (CubesPost O (Venn.andV la lb) w) := by
  obtain ⟨A, ca, pa, rfl, rfl, hra, hoa, _, _⟩ := ha
  obtain ⟨B, cb, pb, rfl, rfl, hrb, hob, _, _⟩ := hb
  have HRA := Lib.hid hra
  have HRB := Lib.hid hrb
  have HOA := Lib.hid hoa
  have HOB := Lib.hid hob
  have HMA := Lib.hid ma
  have HMB := Lib.hid mb
  have HNA := Lib.hid na
  have HNB := Lib.hid nb
  rw [lVals_len] at h1 h2
  have HJ := Lib.hid (show Venn.and2 (lVals pb) [] (lVals pa) = Venn.and2 (lVals pb) [] ((lVals pa).drop 0) by rw [List.drop_zero])
  have HL := Lib.hid (show (Venn.and2 (lVals pb) [] (lVals pa)).length ≤ 1600 by
    have := Venn.and2_len (b := lVals pb) (lVals pa) []
    rw [lVals_len, lVals_len, List.length_nil, Nat.zero_add] at this
    exact Nat.le_trans this (Nat.le_trans (Nat.mul_le_mul h1 h2) (by decide)))
  unfold Venn.andV
  generalize Venn.and2 (lVals pb) [] (lVals pa) = R at HJ HL ⊢
  clear hra hrb hoa hob ma mb na nb
  go_enter Tryz.func114, Tryz.ntmps114
  go_upto_region 2 with (fail)
  go_wp2
  go_loopw [6, 15] (fun v i wr => ∃ (k : Nat) (p : List LV), k ≤ pa.length ∧ i = .int .i64 k ∧ RowAt w wr v p ∧ Off O p ∧ R = Venn.and2 (lVals pb) (lVals p) ((lVals pa).drop k)) (fun _ i _ => pa.length - (intOf i).toNat)
  case atStart => exact ⟨0, [], Nat.zero_le _, rfl, ⟨OwnL.nil _ _, Below.refl _ _⟩, (fun x hx => by cases hx), HJ.out⟩
  case round =>
    obtain ⟨k, p, hk, rfl, hrow, hoff, hR⟩ := hrel
    obtain ⟨wo, rfl⟩ : ∃ wo : World, wo = wr := ⟨_, rfl⟩
    obtain ⟨V0, k0, rfl⟩ := hrow.own.slice
    have HW := Lib.hid hrow
    have HF := Lib.hid hoff
    have hbw := hrow.below
    clear hrow hoff
    by_cases hlt : k < pa.length
    · obtain ⟨⟨x, xv⟩, hx⟩ : ∃ x, pa[k]? = some x := ⟨pa[k], List.getElem?_eq_getElem hlt⟩
      obtain ⟨ad, rfl, hc0⟩ := HRA.out k xv (by unfold lCells; rw [List.getElem?_map, hx]; rfl)
      have hc := cell_keep hbw hc0
      have HXV := Lib.hid (HOA.out _ (List.mem_of_getElem? hx))
      have HMX := Lib.hid (HMA.out _ (lVals_mem (List.mem_of_getElem? hx)))
      have HNX := Lib.hid (HNA.out _ (lVals_mem (List.mem_of_getElem? hx)))
      rw [lVals_at hx, Venn.and2] at hR
      have HR := Lib.hid (show R = Venn.and2 (lVals pb) (Venn.and1 x (lVals p) ((lVals pb).drop 0)) ((lVals pa).drop (k + 1)) by rw [List.drop_zero]; exact hR)
      have hk1 : (k : Int) < (pa.length : Int) := by omega
      have hk0 : (0 : Int) ≤ (k : Int) := by omega
      simp only at HXV HMX HNX
      clear hR hx hc0
      go_upto_region 5 with (fail)
      clear hc
      go_wp2
      go_loopw [6, 21] (fun v i wr => ∃ (j : Nat) (p : List LV), j ≤ pb.length ∧ i = .int .i64 j ∧ RowAt w wr v p ∧ Off O p ∧ R = Venn.and2 (lVals pb) (Venn.and1 x (lVals p) ((lVals pb).drop j)) ((lVals pa).drop (k + 1))) (fun _ i _ => pb.length - (intOf i).toNat)
      case atStart => exact ⟨0, p, Nat.zero_le _, rfl, HW.out, HF.out, HR.out⟩
      case round =>
        clear HW HR hbw HF
        obtain ⟨j, q, hj, rfl, hrow, hoff, hR⟩ := hrel
        obtain ⟨w1, rfl⟩ : ∃ w1 : World, w1 = wr := ⟨_, rfl⟩
        obtain ⟨V1, k1, rfl⟩ := hrow.own.slice
        have HW := Lib.hid hrow
        have HF := Lib.hid hoff
        have hbw := hrow.below
        clear hrow hoff
        by_cases hlj : j < pb.length
        · obtain ⟨⟨y, yv⟩, hy⟩ : ∃ x, pb[j]? = some x := ⟨pb[j], List.getElem?_eq_getElem hlj⟩
          obtain ⟨bd, rfl, hd0⟩ := HRB.out j yv (by unfold lCells; rw [List.getElem?_map, hy]; rfl)
          have hd := cell_keep hbw hd0
          have HYV := Lib.hid (HOB.out _ (List.mem_of_getElem? hy))
          have HMY := Lib.hid (HMB.out _ (lVals_mem (List.mem_of_getElem? hy)))
          have HNY := Lib.hid (HNB.out _ (lVals_mem (List.mem_of_getElem? hy)))
          rw [lVals_at hy, Venn.and1] at hR
          have hj1 : (j : Int) < (pb.length : Int) := by omega
          have hj0 : (0 : Int) ≤ (j : Int) := by omega
          simp only at HYV HMY HNY
          have HR := Lib.hid hR
          have HM := Lib.hid (cubes_merge xv yv x y w1 (HXV.out.keep hbw) (HYV.out.keep hbw) HNX.out HNY.out HMX.out HMY.out)
          generalize Venn.joinV x y = J at HM HR
          clear hR hy hd0 hbw
          go_wp2_with fail
          clear hd
          refine (HM.out).mono ?_
          rintro e w2 ⟨hb2, ⟨rfl, rfl⟩ | ⟨c, v, rfl, rfl, hI, hlt2⟩⟩
          · have HW2 := Lib.hid (HW.out.keep hb2)
            clear HW hb2
            go_wp2
            go_roundw
            case rel => exact ⟨j + 1, q, by omega, by go_num, HW2.out, HF.out, HR.out⟩
            case measure => simp [intOf]; omega
          · have hq := HW.out.own.own
            have HW2 := Lib.hid (HW.out.keep hb2)
            have hlen : q.length < 100000 := by
              have h1 := HL.out
              rw [HR.out] at h1
              have h2 := Nat.le_trans (and1_grow (x := x) ((lVals pb).drop (j + 1)) (Venn.putV (lVals q) c)) (and2_grow (b := lVals pb) ((lVals pa).drop (k + 1)) _)
              have h3 := (Venn.putV_len (lVals q) c).2
              rw [lVals_len] at h3
              simp only at h1
              omega
            have hbase : w.heap.size ≤ w2.heap.size := HW2.out.below.size
            have HA := Lib.hid (cubes_add w.heap.size _ q (c, v) w2 HW2.out.own hI (fun _ b e => by
              intro e2
              have h1 := (hlt2 b e).1
              have h2 := (hq.lt b e2).2
              omega) hlen hbase)
            simp only at HA
            have HFY := Lib.hid (show ∀ b, v.ownBlock = some b → b ≠ O from fun b e => by have h1 := (hlt2 b e).1; have h2 := HW.out.below.size; omega)
            clear HW hb2 hI hlt2 hq hlen hbase
            go_wp2_with fail
            refine (HA.out).mono ?_
            rintro e w3 ⟨v', p', rfl, ho3, hp3, hmem, hbut, _⟩
            have HF3 := Lib.hid (show Off O p' from fun x hx hne b e => (hmem x hx).elim (fun h => HF.out x h hne b e) (fun h => HFY.out b (by rw [h] at e; exact e)))
            clear hmem
            have HW3 := Lib.hid (HW2.out.add ho3 hbut)
            have HR3 := Lib.hid (show R = Venn.and2 (lVals pb) (Venn.and1 x (lVals p') ((lVals pb).drop (j + 1))) ((lVals pa).drop (k + 1)) by rw [hp3]; exact HR.out)
            clear HW2 ho3 hp3 hbut
            go_wp2
            go_roundw
            case rel => exact ⟨j + 1, p', by omega, by go_num, HW3.out, HF3.out, HR3.out⟩
            case measure => simp [intOf]; omega
        · have hj' : j = pb.length := by omega
          have HR := Lib.hid (show R = Venn.and2 (lVals pb) (lVals q) ((lVals pa).drop (k + 1)) by rw [hR, hj', List.drop_eq_nil_of_le (by rw [lVals_len]; exact Nat.le_refl _)]; rfl)
          subst hj'
          clear hR hbw
          go_wp2
          go_roundw
          case rel => exact ⟨k + 1, q, by omega, by go_num, HW.out, HF.out, HR.out⟩
          case measure => simp [intOf]; omega
    · have hk' : k = pa.length := by omega
      have HR := Lib.hid (show R = lVals p by rw [hR, hk', List.drop_eq_nil_of_le (by rw [lVals_len]; exact Nat.le_refl _)]; rfl)
      subst hk'
      clear hR
      have hlR : R.length = p.length := by rw [HR.out, lVals_len]
      by_cases h40 : 40 < p.length
      · have HC := Lib.hid (show Venn.chkC R = none by unfold Venn.chkC; rw [if_pos (by omega)])
        clear hlR
        go_wp2_with fail
        refine (cubes_checked _ _ _ _ rfl _).mono ?_
        rintro e w2 ⟨rfl, rfl⟩
        rw [if_pos h40]
        go_wp2
        go_ret2
        exact ⟨hbw, .inl ⟨HC.out, rfl⟩⟩
      · have HC := Lib.hid (show Venn.chkC R = some (lVals p) by unfold Venn.chkC; rw [if_neg (by omega), HR.out])
        clear hlR
        go_wp2_with fail
        refine (cubes_checked _ _ _ _ rfl _).mono ?_
        rintro e w2 ⟨rfl, rfl⟩
        rw [if_neg h40]
        go_wp2
        go_ret2
        exact ⟨hbw, .inr ⟨_, p, HC.out, rfl, HW.out.own, HF.out⟩⟩
end Go.Proofs.YtjnjgcibhjdmdaaGreatDoor

namespace Go.Proofs.YtjnjgcibhjdmdaaGreatDoor
open Go.RowKit

/-- A clone's row of slices: the lists lie elsewhere. -/
theorem own_of_clone {w w' : World} {v : Value} {p : List LV} (hown : w'.ownsRow w.heap.size 30 1 v p.length (lCells p)) (hp : LOk w p) (hb : Below w.heap.size w w') : OwnL w.heap.size w' v p :=
  ⟨hown, hp.keep hb, fun x hx hl b e e2 => by
    have h1 := ints_lt (hp x hx) hl e
    have h2 := (hown.lt b e2).1
    omega⟩
def CloneLPost (p : List LV) (w : World) (e : Ending) (w' : World) : Prop := ∃ v', e = .returned v' ∧ RowAt w w' v' p
set_option maxHeartbeats 1000000 in
set_option maxRecDepth 100000 in
theorem clone_lists (A : Option Addr) (c : Nat) (p : List LV) (w : World) (hr : Rd w A (lCells p)) (hp : LOk w p) (hl : p.length ≤ 1000) : Calls Tryz.prog 134 #[.slice A p.length c] w (CloneLPost p w) := by
  have q38 : ∀ (w : World) (a : Option Addr) (n c n' c' : Nat), (binOp .eql 72 (.slice a n c) (.slice none n' c')).run Tryz.prog w = .ok (.bool a.isNone) w := fun w a n c n' c' => Lib.run_eql_slice_nil w _ _ a n c n' c' Tryz.underlying72
  rcases A with _ | ad
  · have hz : p = [] := by
      rcases p with _ | ⟨x, r⟩
      · rfl
      · obtain ⟨_, h, _⟩ := hr 0 x.2 rfl
        cases h
    subst hz
    go_enter Tryz.func134, Tryz.ntmps134
    go_wp2
    go_ret
    exact ⟨_, rfl, OwnL.nil _ _, Below.refl _ _⟩
  · have hown : (w.alloc (.cells #[] 30)).ownsRow w.heap.size 30 1 (.slice (some ⟨w.heap.size, 0, none⟩) 0 0) 0 [] :=
      ⟨rfl, .inr ⟨w.heap.size, 0, #[], rfl, Nat.le_refl _, Blk.new w 30 #[], Nat.le_refl _, by simp [maxLen], rfl, rfl⟩⟩
    have hr2 : Rd (w.alloc (.cells #[] 30)) (some ad) (lCells p) := hr.keep (by (repeat' (first | (with_reducible exact Below.refl _ _) | (with_reducible assumption) | (with_reducible refine Below.next ?_ (by with_reducible assumption)) | (with_reducible refine Below.drew ?_) | (with_reducible refine Below.laid ?_ _) | (with_reducible refine Below.setCell ?_ ?_ _) | (with_reducible refine size_of ?_) | (with_reducible refine Nat.le_succ_of_le ?_) | go_size)))
    have hp2 : LOk (w.alloc (.cells #[] 30)) p := hp.keep (by (repeat' (first | (with_reducible exact Below.refl _ _) | (with_reducible assumption) | (with_reducible refine Below.next ?_ (by with_reducible assumption)) | (with_reducible refine Below.drew ?_) | (with_reducible refine Below.laid ?_ _) | (with_reducible refine Below.setCell ?_ ?_ _) | (with_reducible refine size_of ?_) | (with_reducible refine Nat.le_succ_of_le ?_) | go_size)))
    go_enter Tryz.func134, Tryz.ntmps134
    go_wp2_with (at_builtin; refine wpList_appLs _ rfl _ _ rfl w.heap.size _ _ _ rfl hown ad c p rfl hr2 hp2 (by omega) (by simp) ?_)
    intro v' w1 hown' hg' _
    have hb : Below w.heap.size w w1 := ((Below.refl _ w).alloc (Nat.le_refl _) (.cells #[] 30)).grown hg' (by simp) (fun g hg => by simp [Value.ownBlock] at hg; omega)
    go_wp2
    go_ret
    exact ⟨v', rfl, own_of_clone (by simpa using hown') hp hb, hb⟩

theorem orL_grow : ∀ (b o : List (List Int)), o.length ≤ (Venn.orL o b).length := by
  intro b
  induction b with
  | nil => intro o; exact Nat.le_refl _
  | cons c r ih => intro o; exact Nat.le_trans (Venn.putV_len o c).2 (ih _)
set_option maxHeartbeats 4000000 in
set_option maxRecDepth 100000 in
theorem cubes_one (O : Nat) (sa sb : Value) (la lb : List (List Int)) (w : World) (ha : ListsOff O w sa la) (hb : ListsOff O w sb lb) (h1 : la.length ≤ 40) (h2 : lb.length ≤ 40) :
    Calls Tryz.prog 115 #[sa, sb] w (CubesPost O (Venn.orV la lb) w) := by
  obtain ⟨A, ca, pa, rfl, rfl, hra, hoa, _, _, hfa, _⟩ := ha
  obtain ⟨B, cb, pb, rfl, rfl, hrb, hob, _, _, hfb, _⟩ := hb
  rw [lVals_len] at h1 h2
  have HFA := Lib.hid hfa
  have HFB := Lib.hid hfb
  clear hfa hfb
  have HCL := Lib.hid (clone_lists A ca pa w hra hoa (by omega))
  have HRB := Lib.hid hrb
  have HOB := Lib.hid hob
  have HJ := Lib.hid (show Venn.orL (lVals pa) (lVals pb) = Venn.orL (lVals pa) ((lVals pb).drop 0) by rw [List.drop_zero])
  have HL := Lib.hid (show (Venn.orL (lVals pa) (lVals pb)).length ≤ 80 by
    have := Venn.orL_len (lVals pb) (lVals pa)
    rw [lVals_len, lVals_len] at this
    omega)
  unfold Venn.orV
  generalize Venn.orL (lVals pa) (lVals pb) = R at HJ HL ⊢
  clear hra hrb hoa hob
  go_enter Tryz.func115, Tryz.ntmps115
  go_wp2_with fail
  refine (HCL.out).mono ?_
  rintro e w0 ⟨v0, rfl, hrow0⟩
  obtain ⟨V0, k0, rfl⟩ := hrow0.own.slice
  have HW0 := Lib.hid hrow0
  clear hrow0
  go_wp2
  go_loopw [6, 13] (fun v i wr => ∃ (j : Nat) (p : List LV), j ≤ pb.length ∧ i = .int .i64 j ∧ RowAt w wr v p ∧ Off O p ∧ R = Venn.orL (lVals p) ((lVals pb).drop j)) (fun _ i _ => pb.length - (intOf i).toNat)
  case atStart => exact ⟨0, pa, Nat.zero_le _, rfl, HW0.out, HFA.out, HJ.out⟩
  case round =>
    clear HW0 HJ
    obtain ⟨j, q, hj, rfl, hrow, hoff, hR⟩ := hrel
    obtain ⟨w1, rfl⟩ : ∃ w1 : World, w1 = wr := ⟨_, rfl⟩
    obtain ⟨V1, k1, rfl⟩ := hrow.own.slice
    have HW := Lib.hid hrow
    have HF := Lib.hid hoff
    have hbw := hrow.below
    clear hrow hoff
    by_cases hlj : j < pb.length
    · obtain ⟨⟨y, yv⟩, hy⟩ : ∃ x, pb[j]? = some x := ⟨pb[j], List.getElem?_eq_getElem hlj⟩
      obtain ⟨bd, rfl, hd0⟩ := HRB.out j yv (by unfold lCells; rw [List.getElem?_map, hy]; rfl)
      have hd := cell_keep hbw hd0
      have hYV := HOB.out _ (List.mem_of_getElem? hy)
      rw [lVals_at hy, Venn.orL] at hR
      have hj1 : (j : Int) < (pb.length : Int) := by omega
      have hj0 : (0 : Int) ≤ (j : Int) := by omega
      have HR := Lib.hid hR
      have hlen : q.length < 100000 := by
        have h1 := HL.out
        rw [HR.out] at h1
        have h2 := orL_grow ((lVals pb).drop (j + 1)) (Venn.putV (lVals q) y)
        have h3 := (Venn.putV_len (lVals q) y).2
        rw [lVals_len] at h3
        simp only at h1
        omega
      have HA := Lib.hid (cubes_add w.heap.size _ q (y, yv) w1 HW.out.own (hYV.keep hbw) (fun hne b e e2 => by
        have h1 := ints_lt hYV hne e
        have h2 := (HW.out.own.own.lt b e2).1
        omega) hlen hbw.size)
      simp only at HA
      have HFY := Lib.hid (HFB.out _ (List.mem_of_getElem? hy))
      clear hR hy hd0 hbw hYV hlen
      go_wp2_with fail
      clear hd
      refine (HA.out).mono ?_
      rintro e w3 ⟨v', p', rfl, ho3, hp3, hmem, hbut, _⟩
      have HF3 := Lib.hid (show Off O p' from fun x hx hne b e => (hmem x hx).elim (fun h => HF.out x h hne b e) (fun h => HFY.out (by rw [h] at hne; exact hne) b (by rw [h] at e; exact e)))
      clear hmem
      have HW3 := Lib.hid (HW.out.add ho3 hbut)
      have HR3 := Lib.hid (show R = Venn.orL (lVals p') ((lVals pb).drop (j + 1)) by rw [hp3]; exact HR.out)
      clear HW ho3 hp3 hbut
      go_wp2
      go_roundw
      case rel => exact ⟨j + 1, p', by omega, by go_num, HW3.out, HF3.out, HR3.out⟩
      case measure => simp [intOf]; omega
    · have hj' : j = pb.length := by omega
      have HR := Lib.hid (show R = lVals q by rw [hR, hj', List.drop_eq_nil_of_le (by rw [lVals_len]; exact Nat.le_refl _)]; rfl)
      subst hj'
      clear hR
      have hlR : R.length = q.length := by rw [HR.out, lVals_len]
      by_cases h40 : 40 < q.length
      · have HC := Lib.hid (show Venn.chkC R = none by unfold Venn.chkC; rw [if_pos (by omega)])
        clear hlR
        go_wp2_with fail
        refine (cubes_checked _ _ _ _ rfl _).mono ?_
        rintro e w2 ⟨rfl, rfl⟩
        rw [if_pos h40]
        go_wp2
        go_ret2
        exact ⟨hbw, .inl ⟨HC.out, rfl⟩⟩
      · have HC := Lib.hid (show Venn.chkC R = some (lVals q) by unfold Venn.chkC; rw [if_neg (by omega), HR.out])
        clear hlR
        go_wp2_with fail
        refine (cubes_checked _ _ _ _ rfl _).mono ?_
        rintro e w2 ⟨rfl, rfl⟩
        rw [if_neg h40]
        go_wp2
        go_ret2
        exact ⟨hbw, .inr ⟨_, q, HC.out, rfl, HW.out.own, HF.out⟩⟩

/-- What a function answers that makes cubes, and whose list may lie anywhere but in O. -/
def NonePost (O : Nat) (J : Option (List (List Int))) (w : World) (e : Ending) (w' : World) : Prop :=
  Below w.heap.size w w' ∧ ((J = none ∧ e = .returned (.tuple #[.slice none 0 0, errV 4])) ∨ ∃ v L, J = some L ∧ e = .returned (.tuple #[v, errV 0]) ∧ ListsOff O w' v L)
theorem CubesPost.off {O : Nat} {J : Option (List (List Int))} {w w' : World} {e : Ending} (h : CubesPost O J w e w') (hO : O < w.heap.size) : NonePost O J w e w' :=
  ⟨h.1, h.2.imp id fun ⟨v, p, h1, h2, h3, h4⟩ => ⟨v, lVals p, h1, h2, ListsOff.of_own h3 h4 hO⟩⟩
theorem slice_of_lists {O : Nat} {w : World} {v : Value} {L : List (List Int)} (h : ListsOff O w v L) : ∃ A c, v = .slice A L.length c := by
  obtain ⟨A, c, p, rfl, rfl, _⟩ := h
  exact ⟨A, c, by rw [lVals_len]⟩
set_option maxHeartbeats 4000000 in
set_option maxRecDepth 100000 in
theorem cubes_none (O : Nat) (sa : Value) (la : List (List Int)) (w : World) (hO : O < w.heap.size) (ha : IsLists w sa la) (ma : ∀ c ∈ la, ∀ x ∈ c, Venn.mOk x = true) (na : ∀ c ∈ la, c.length ≤ 6) (h1 : la.length ≤ 40) :
    Calls Tryz.prog 113 #[sa] w (NonePost O (Venn.noV la) w) := by
  obtain ⟨A, ca, pa, rfl, rfl, hra, hoa, _, _⟩ := ha
  have HRA := Lib.hid hra
  have HOA := Lib.hid hoa
  have HMA := Lib.hid ma
  have HNA := Lib.hid na
  rw [lVals_len] at h1
  have HJ := Lib.hid (show Venn.noV (lVals pa) = Venn.noFrom [[]] ((lVals pa).drop 0) by rw [List.drop_zero]; rfl)
  generalize Venn.noV (lVals pa) = J at HJ ⊢
  clear hra hoa ma na
  have hb0 : Below w.heap.size w (w.alloc (.cells #[.slice none 0 0] 30)) := by (repeat' (first | (with_reducible exact Below.refl _ _) | (with_reducible assumption) | (with_reducible refine Below.next ?_ (by with_reducible assumption)) | (with_reducible refine Below.drew ?_) | (with_reducible refine Below.laid ?_ _) | (with_reducible refine Below.setCell ?_ ?_ _) | (with_reducible refine size_of ?_) | (with_reducible refine Nat.le_succ_of_le ?_) | go_size))
  have HL0 := Lib.hid (show ListsOff O (w.alloc (.cells #[.slice none 0 0] 30)) (.slice (some ⟨w.heap.size, 0, none⟩) 1 1) [[]] from by
    refine ⟨_, _, [([], .slice none 0 0)], rfl, rfl, fun j u hj => ⟨_, rfl, ?_⟩, fun x hx => ?_, Nat.le_refl _, by simp [maxLen], fun x hx hne => ?_, fun _ b e => ?_⟩
    · match j, hj with
      | 0, hj => simp [lCells] at hj; subst hj; exact (Blk.new w 30 #[.slice none 0 0]).cell 0
    · rw [List.mem_singleton.1 hx]; exact ⟨none, 0, rfl, Rd.nil _ _, Nat.le_refl _, by simp [maxLen]⟩
    · rw [List.mem_singleton.1 hx] at hne; exact absurd rfl hne
    · simp [Value.ownBlock] at e; omega)
  go_enter Tryz.func113, Tryz.ntmps113
  go_upto_region 2 with (fail)
  go_wp2
  go_loopw [4, 15] (fun v i wr => ∃ (k : Nat) (o : List (List Int)), k ≤ pa.length ∧ i = .int .i64 k ∧ Below w.heap.size w wr ∧ ListsOff O wr v o ∧ Venn.COk o ∧ J = Venn.noFrom o ((lVals pa).drop k)) (fun _ i _ => pa.length - (intOf i).toNat)
  case atStart => exact ⟨0, [[]], Nat.zero_le _, rfl, hb0, HL0.out, Venn.nilnil_ok, HJ.out⟩
  case round =>
    clear HL0 HJ hb0
    obtain ⟨k, o, hk, rfl, hbw, hlo, hco, hJ⟩ := hrel
    obtain ⟨wo, rfl⟩ : ∃ wo : World, wo = wr := ⟨_, rfl⟩
    obtain ⟨V0, k0, rfl⟩ := slice_of_lists hlo
    have HLO := Lib.hid hlo
    have HCO := Lib.hid hco
    clear hlo hco
    by_cases hlt : k < pa.length
    · obtain ⟨⟨x, xv⟩, hx⟩ : ∃ x, pa[k]? = some x := ⟨pa[k], List.getElem?_eq_getElem hlt⟩
      obtain ⟨ad, rfl, hc0⟩ := HRA.out k xv (by unfold lCells; rw [List.getElem?_map, hx]; rfl)
      have hc := cell_keep hbw hc0
      obtain ⟨X, cx, hxv, hrx, hx1, hx2⟩ := HOA.out _ (List.mem_of_getElem? hx)
      have hmx := HMA.out _ (lVals_mem (List.mem_of_getElem? hx))
      have hnx := HNA.out _ (lVals_mem (List.mem_of_getElem? hx))
      rw [lVals_at hx, Venn.noFrom] at hJ
      simp only at hxv hrx hx1 hmx hnx hJ
      subst hxv
      have HMX := Lib.hid hmx
      have HRX := Lib.hid hrx
      have HJ := Lib.hid hJ
      have hk1 : (k : Int) < (pa.length : Int) := by omega
      have hk0 : (0 : Int) ≤ (k : Int) := by omega
      clear hJ hx hc0 hmx hrx hx2
      go_upto_region 6 with (fail)
      clear hc
      go_wp2
      go_loopw [7, 21] (fun v i wr => ∃ (j : Nat) (p : List LV), j ≤ x.length ∧ i = .int .i64 j ∧ RowAt wo wr v p ∧ lVals p = Venn.turnC (x.take j)) (fun _ i _ => x.length - (intOf i).toNat)
      case atStart => exact ⟨0, [], Nat.zero_le _, rfl, ⟨OwnL.nil _ _, Below.refl _ _⟩, rfl⟩
      case round =>
        obtain ⟨j, q, hj, rfl, hrow, hq⟩ := hrel
        obtain ⟨w1, rfl⟩ : ∃ w1 : World, w1 = wr := ⟨_, rfl⟩
        obtain ⟨V1, k1, rfl⟩ := hrow.own.slice
        have hbw1 := hrow.below
        have hql : q.length = j := by
          have := congrArg List.length hq
          rw [lVals_len, Venn.turnC, List.length_map, List.length_take] at this
          omega
        have HW := Lib.hid hrow
        have HQ := Lib.hid hq
        have hq6 : q.length < 1000000 := by omega
        have HQL := Lib.hid hql
        clear hrow hq hql
        by_cases hlj : j < x.length
        · obtain ⟨xd, rfl, hd0⟩ := HRX.out.int hlj
          have hd := cell_keep (Below.next hbw hbw1) hd0
          have hm := Venn.mOk_iff.1 (HMX.out _ (List.getElem_mem hlj))
          have HQ2 := Lib.hid (show Venn.turnC (x.take (j + 1)) = lVals q ++ [[-x[j]]] by
            rw [HQ.out, Venn.turnC, Venn.turnC, List.take_succ_eq_append_getElem hlj, List.map_append]; rfl)
          generalize x[j] = m at hd0 hd hm HQ2
          have hw : wrap64 (-m) = -m := IntWalk.wrap64_in _ (by omega)
          have hj1 : (j : Int) < (x.length : Int) := by omega
          have hj0 : (0 : Int) ≤ (j : Int) := by omega
          clear hd0 hm
          go_upto_region 9 with (fail)
          clear hd
          have hb2 : Below w1.heap.size w1 (w1.alloc (.cells #[.int .i64 (-m)] 3)) := by (repeat' (first | (with_reducible exact Below.refl _ _) | (with_reducible assumption) | (with_reducible refine Below.next ?_ (by with_reducible assumption)) | (with_reducible refine Below.drew ?_) | (with_reducible refine Below.laid ?_ _) | (with_reducible refine Below.setCell ?_ ?_ _) | (with_reducible refine size_of ?_) | (with_reducible refine Nat.le_succ_of_le ?_) | go_size))
          have hI := (IsInts.one w1 (-m) 3).keep (show Below (w1.alloc (.cells #[.int .i64 (-m)] 3)).heap.size _ ((w1.alloc (.cells #[.int .i64 (-m)] 3)).alloc (.cells #[.slice (some ⟨w1.heap.size, 0, none⟩) 1 1] 30)) by (repeat' (first | (with_reducible exact Below.refl _ _) | (with_reducible assumption) | (with_reducible refine Below.next ?_ (by with_reducible assumption)) | (with_reducible refine Below.drew ?_) | (with_reducible refine Below.laid ?_ _) | (with_reducible refine Below.setCell ?_ ?_ _) | (with_reducible refine size_of ?_) | (with_reducible refine Nat.le_succ_of_le ?_) | go_size)))
          have hb3 : Below w1.heap.size w1 ((w1.alloc (.cells #[.int .i64 (-m)] 3)).alloc (.cells #[.slice (some ⟨w1.heap.size, 0, none⟩) 1 1] 30)) := by (repeat' (first | (with_reducible exact Below.refl _ _) | (with_reducible assumption) | (with_reducible refine Below.next ?_ (by with_reducible assumption)) | (with_reducible refine Below.drew ?_) | (with_reducible refine Below.laid ?_ _) | (with_reducible refine Below.setCell ?_ ?_ _) | (with_reducible refine size_of ?_) | (with_reducible refine Nat.le_succ_of_le ?_) | go_size))
          have hcell : ((w1.alloc (.cells #[.int .i64 (-m)] 3)).alloc (.cells #[.slice (some ⟨w1.heap.size, 0, none⟩) 1 1] 30)).cell? ⟨w1.heap.size + 1, 0, none⟩ = some (.slice (some ⟨w1.heap.size, 0, none⟩) 1 1) := by
            simp
          have HO3 := Lib.hid (HW.out.own.keep hb3)
          have hbase : wo.heap.size ≤ ((w1.alloc (.cells #[.int .i64 (-m)] 3)).alloc (.cells #[.slice (some ⟨w1.heap.size, 0, none⟩) 1 1] 30)).heap.size := Nat.le_trans hbw1.size hb3.size
          have hfar : ([-m] : List Int) ≠ [] → ∀ b, (Value.slice (some ⟨w1.heap.size, 0, none⟩) 1 1).ownBlock = some b → (Value.slice V1 q.length k1).ownBlock ≠ some b := fun _ b e e2 => by
            have := (HW.out.own.own.lt b e2).2
            simp [Value.ownBlock] at e
            omega
          go_wp2_with (at_builtin; refine wpList_appL _ rfl _ _ rfl wo.heap.size _ q rfl HO3.out (w1.heap.size + 1) 1 ([-m], .slice (some ⟨w1.heap.size, 0, none⟩) 1 1) rfl hcell hI hfar hq6 hbase ?_)
          intro v' w3 hown3 hg3 hat3
          have HW3 := Lib.hid ((HW.out.keep hb3).add hown3 (But.of_grown hg3))
          have HQ3 := Lib.hid (show lVals (q ++ [([-m], .slice (some ⟨w1.heap.size, 0, none⟩) 1 1)]) = Venn.turnC (x.take (j + 1)) by rw [lVals_app, HQ2.out]; rfl)
          clear hown3 hg3 hat3 hfar hI hcell hb2 hb3 hbase
          go_wp2
          go_roundw
          case rel => exact ⟨j + 1, _, by omega, by go_num, HW3.out, HQ3.out⟩
          case measure => simp [intOf]; omega
        · have hj' : j = x.length := by omega
          have HQ := Lib.hid (show lVals q = Venn.turnC x by rw [HQ.out, hj', List.take_length])
          have hql6 : q.length ≤ 6 := by have := HQL.out; omega
          have HB := Lib.hid (cubes_both O (.slice V0 o.length k0) (.slice V1 q.length k1) o (lVals q) w1 (Nat.lt_of_lt_of_le hO (Nat.le_trans hbw.size hbw1.size)) (HLO.out.keep hbw1).lists HW.out.own.lists HCO.out.2 (by rw [lVals_len]; omega) (Venn.mem_of_cok HCO.out) (by rw [HQ.out]; exact Venn.turnC_ok HMX.out)
            (fun c hc => by have := (HCO.out.1.1 c hc).2.2; omega) (fun c hc => by
              rw [HQ.out] at hc
              obtain ⟨z, _, rfl⟩ := List.mem_map.1 hc
              simp))
          rw [HQ.out] at HB
          have hbw2 := Below.next hbw hbw1
          subst hj'
          cases hA : Venn.andV o (Venn.turnC x) with
          | none =>
            rw [hA] at HB
            have HJ := Lib.hid (show J = none by rw [HJ.out, hA])
            clear hA
            go_wp2_with fail
            refine (HB.out).mono ?_
            rintro e w4 ⟨hb4, ⟨_, rfl⟩ | ⟨v, p, hh, _⟩⟩
            · rw [errV_ne (show (4 : Int) ≠ 0 by decide)]
              have hbw4 := Below.next hbw2 hb4
              go_wp2
              go_ret2
              exact ⟨hbw4, .inl ⟨HJ.out, by rw [errV_ne (show (4 : Int) ≠ 0 by decide)]; rfl⟩⟩
            · cases hh
          | some n =>
            rw [hA] at HB
            have HC := Lib.hid (Venn.andV_ok hA)
            have HJ := Lib.hid (show J = Venn.noFrom n ((lVals pa).drop (k + 1)) by rw [HJ.out, hA])
            clear hA
            go_wp2_with fail
            refine (HB.out).mono ?_
            rintro e w4 ⟨hb4, ⟨hh, _⟩ | ⟨v, p, hh, rfl, hown4, hoff4⟩⟩
            · cases hh
            · injection hh with hh
              subst hh
              rw [errV_zero rfl]
              have HL4 := Lib.hid (ListsOff.of_own hown4 hoff4 (Nat.lt_of_lt_of_le hO hbw2.size))
              have hbw4 := Below.next hbw2 hb4
              clear hown4 hoff4 hb4
              go_wp2
              go_roundw
              case rel => exact ⟨k + 1, _, by omega, by go_num, hbw4, HL4.out, HC.out, HJ.out⟩
              case measure => simp [intOf]; omega
    · have hk' : k = pa.length := by omega
      have HJ := Lib.hid (show J = some o by rw [hJ, hk', List.drop_eq_nil_of_le (by rw [lVals_len]; exact Nat.le_refl _)]; rfl)
      subst hk'
      clear hJ
      go_wp2
      go_ret2
      exact ⟨hbw, .inr ⟨_, _, HJ.out, by rw [errV_zero rfl]; rfl, HLO.out⟩⟩
end Go.Proofs.YtjnjgcibhjdmdaaGreatDoor
