/-
  THE WALK of vennlaw2.SomeEach.
-/
import Derived.Test.YtnjamgmaclmlpaaDoorSomeEach0
import Derived.Test.YtnjamgmaclmlpaaDoorSomeEach1
import Derived.Test.YtnjamgmaclmlpaaDoorSomeEach2
namespace Go.Proofs.YtnjamgmaclmlpaaDoor
open Go.RowKit

set_option maxHeartbeats 2000000 in
set_option maxRecDepth 100000 in
theorem someEach_walk (sa sc : Value) (l : List Venn.Atom) (c : List Int) (name th a b d s : Int) (w : World) (ha : IsAtoms w sa l) (hc : IsInts w sc c) (hk : KindsOk w) (het : EtOk w) :
    Calls Tryd.prog 14 #[.agg #[sa, sc], .int .i64 name, .agg #[.int .i64 th, .int .i64 a, .int .i64 b, .int .i64 d], .int .i64 s] w (Keeps (.bool true) w) := by
  by_cases hs : Venn.someChk ⟨l, c⟩ name ⟨th, a, b, d⟩ = 0
  · obtain ⟨h1, h2, h3⟩ := someChk_parts hs
    simp only [Venn.nameOk, Bool.and_eq_true, decide_eq_true_eq] at h2
    rcases (by omega : name = 0 ∨ name = 1 ∨ name = 2) with rfl | rfl | rfl
    · exact someEach_0 sa sc l c th a b d s w ha hc hk het h1 h3
    · exact someEach_1 sa sc l c th a b d s w ha hc hk het h1 h3
    · exact someEach_2 sa sc l c th a b d s w ha hc hk het h1 h3
  · obtain ⟨A, cA, rfl⟩ := ha.slice
    obtain ⟨C, cC, rfl⟩ := hc.slice
    have HA := Lib.hid ha
    have HC := Lib.hid hc
    have HK := Lib.hid hk
    have HFA := Lib.hid each_fact
    have HX := Lib.hid (errV_ne hs)
    clear ha hc hk het hs
    go_enter Tryd.func14, Tryd.ntmps14
    go_wp2_with fail
    refine (some_First _ _ [⟨3, [0], [], 1⟩] [0] _ _ _ _ _ _ (IsAtoms.one (t := 56) (a := ⟨3, [0], [], 1⟩) (by repeat (first | (refine Blk.newAt ?_ _ _; simp; done) | refine Blk.alloc ?_ _)) (IsInts.of_blk1 (t := 3) (by repeat (first | (refine Blk.newAt ?_ _ _; simp; done) | refine Blk.alloc ?_ _))) (IsIntsNil _)) (IsInts.of_blk1 (t := 3) (by repeat (first | (refine Blk.newAt ?_ _ _; simp; done) | refine Blk.alloc ?_ _))) (HK.out.keep (by (repeat' (first | (with_reducible exact Below.refl _ _) | (with_reducible assumption) | (with_reducible refine Below.next ?_ (by with_reducible assumption)) | (with_reducible refine Below.drew ?_) | (with_reducible refine Below.laid ?_ _) | (with_reducible refine Below.setCell ?_ ?_ _) | (with_reducible refine size_of ?_) | (with_reducible refine Nat.le_succ_of_le ?_) | go_size))))).mono ?_
    rintro e w1 ⟨rfl, hb1⟩
    rw [HFA.out]
    have hw1 : Below w.heap.size w w1 := by (repeat' (first | (with_reducible exact Below.refl _ _) | (with_reducible assumption) | (with_reducible refine Below.next ?_ (by with_reducible assumption)) | (with_reducible refine Below.drew ?_) | (with_reducible refine Below.laid ?_ _) | (with_reducible refine Below.setCell ?_ ?_ _) | (with_reducible refine size_of ?_) | (with_reducible refine Nat.le_succ_of_le ?_) | go_size))
    have BF : Blk w1 w.heap.size 41 #[.slice A l.length cA, .slice C c.length cC] := Blk.keep (by repeat (first | exact Blk.new _ _ _ | refine Blk.alloc ?_ _)) hb1
    have BW : Blk w1 (w.heap.size + 1) 44 #[.int .i64 th, .int .i64 a, .int .i64 b, .int .i64 d] := Blk.keep (by repeat (first | (refine Blk.newAt ?_ _ _; simp; done) | refine Blk.alloc ?_ _)) hb1
    obtain ⟨⟨BF0, BF1⟩, _⟩ := BF.cells2
    have BFl := BF.lt
    obtain ⟨BW0, BW1, BW2, BW3⟩ := BW.cells4
    have BWl := BW.lt
    go_wp2_with fail
    refine (some_Is _ _ l c _ _ _ _ _ _ (HA.out.keep (by (repeat' (first | (with_reducible exact Below.refl _ _) | (with_reducible assumption) | (with_reducible refine Below.next ?_ (by with_reducible assumption)) | (with_reducible refine Below.drew ?_) | (with_reducible refine Below.laid ?_ _) | (with_reducible refine Below.setCell ?_ ?_ _) | (with_reducible refine size_of ?_) | (with_reducible refine Nat.le_succ_of_le ?_) | go_size)))) (HC.out.keep (by (repeat' (first | (with_reducible exact Below.refl _ _) | (with_reducible assumption) | (with_reducible refine Below.next ?_ (by with_reducible assumption)) | (with_reducible refine Below.drew ?_) | (with_reducible refine Below.laid ?_ _) | (with_reducible refine Below.setCell ?_ ?_ _) | (with_reducible refine size_of ?_) | (with_reducible refine Nat.le_succ_of_le ?_) | go_size)))) (HK.out.keep (by (repeat' (first | (with_reducible exact Below.refl _ _) | (with_reducible assumption) | (with_reducible refine Below.next ?_ (by with_reducible assumption)) | (with_reducible refine Below.drew ?_) | (with_reducible refine Below.laid ?_ _) | (with_reducible refine Below.setCell ?_ ?_ _) | (with_reducible refine size_of ?_) | (with_reducible refine Nat.le_succ_of_le ?_) | go_size))))).mono ?_
    rintro e w2 ⟨rfl, hb2⟩
    rw [HX.out]
    have hq2 : Below w1.heap.size w1 w2 := by (repeat' (first | (with_reducible exact Below.refl _ _) | (with_reducible assumption) | (with_reducible refine Below.next ?_ (by with_reducible assumption)) | (with_reducible refine Below.drew ?_) | (with_reducible refine Below.laid ?_ _) | (with_reducible refine Below.setCell ?_ ?_ _) | (with_reducible refine size_of ?_) | (with_reducible refine Nat.le_succ_of_le ?_) | go_size))
    have hw2 : Below w.heap.size w w2 := Below.next hw1 hq2
    generalize someIsV l c name th a b d = sv
    go_wp2
    go_ret
    exact ⟨rfl, hw2⟩
end Go.Proofs.YtnjamgmaclmlpaaDoor
