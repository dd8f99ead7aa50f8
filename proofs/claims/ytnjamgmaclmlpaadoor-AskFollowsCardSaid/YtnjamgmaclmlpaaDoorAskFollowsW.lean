/-
  THE WALK of vennlaw2.AskFollows.
-/
import Derived.Test.YtnjamgmaclmlpaaDoorAskFollows0
import Derived.Test.YtnjamgmaclmlpaaDoorAskFollows1
import Derived.Test.YtnjamgmaclmlpaaDoorAskFollows2
namespace Go.Proofs.YtnjamgmaclmlpaaDoor
open Go.RowKit

set_option maxHeartbeats 2000000 in
set_option maxRecDepth 100000 in
theorem askFollows_walk (v sa sc : Value) (ls : List Venn.Form) (l : List Venn.Atom) (c : List Int) (u th a b d : Int) (w : World) (hl : IsForms w v ls) (ha : IsAtoms w sa l) (hc : IsInts w sc c) (hk : KindsOk w) :
    Calls Tryd.prog 10 #[v, .agg #[sa, sc], .int .i64 u, .agg #[.int .i64 th, .int .i64 a, .int .i64 b, .int .i64 d]] w (Keeps (.bool true) w) := by
  by_cases he : Venn.askErr ls ⟨l, c⟩ u = 0
  · rcases Venn.askV_cases he with ⟨h, _⟩ | ⟨h, _⟩ | ⟨h, _⟩
    · exact askFollows_0 v sa sc ls l c u th a b d w hl ha hc hk he h
    · exact askFollows_1 v sa sc ls l c u th a b d w hl ha hc hk he h
    · exact askFollows_2 v sa sc ls l c u th a b d w hl ha hc hk he h
  · have HX := Lib.hid (show askVv ls ⟨l, c⟩ u = .tuple #[.int .i64 0, .iface 101 (.int .i64 (Venn.askErr ls ⟨l, c⟩ u))] by rw [askVv, Venn.askV, if_neg he, errV_ne he])
    obtain ⟨A, cA, rfl⟩ := ha.slice
    obtain ⟨C, cC, rfl⟩ := hc.slice
    obtain ⟨L, cL, rfl⟩ := forms_slice hl
    have HA := Lib.hid ha
    have HC := Lib.hid hc
    have HL := Lib.hid hl
    have HK := Lib.hid hk
    have HFA := Lib.hid follow_fact
    clear ha hc hl hk he
    go_enter Tryd.func10, Tryd.ntmps10
    go_wp2_with fail
    refine (ask_Of _ _ _ [Venn.moreForm 0 2] [⟨3, [0], [], 1⟩] [0] 3 _ (IsForms.one (t := 41) (f := Venn.moreForm 0 2) (by repeat (first | (refine Blk.newAt ?_ _ _; simp; done) | refine Blk.alloc ?_ _)) (IsAtoms.one (t := 56) (a := ⟨3, [0], [], 2⟩) (by repeat (first | (refine Blk.newAt ?_ _ _; simp; done) | refine Blk.alloc ?_ _)) (IsInts.of_blk1 (t := 3) (by repeat (first | (refine Blk.newAt ?_ _ _; simp; done) | refine Blk.alloc ?_ _))) (IsIntsNil _)) (IsInts.of_blk1 (t := 3) (by repeat (first | (refine Blk.newAt ?_ _ _; simp; done) | refine Blk.alloc ?_ _)))) (IsAtoms.one (t := 56) (a := ⟨3, [0], [], 1⟩) (by repeat (first | (refine Blk.newAt ?_ _ _; simp; done) | refine Blk.alloc ?_ _)) (IsInts.of_blk1 (t := 3) (by repeat (first | (refine Blk.newAt ?_ _ _; simp; done) | refine Blk.alloc ?_ _))) (IsIntsNil _)) (IsInts.of_blk1 (t := 3) (by repeat (first | (refine Blk.newAt ?_ _ _; simp; done) | refine Blk.alloc ?_ _))) (HK.out.keep (by (repeat' (first | (with_reducible exact Below.refl _ _) | (with_reducible assumption) | (with_reducible refine Below.next ?_ (by with_reducible assumption)) | (with_reducible refine Below.drew ?_) | (with_reducible refine Below.laid ?_ _) | (with_reducible refine Below.setCell ?_ ?_ _) | (with_reducible refine size_of ?_) | (with_reducible refine Nat.le_succ_of_le ?_) | go_size))))).mono ?_
    rintro e w1 ⟨rfl, hb1⟩
    rw [HFA.out]
    have hw1 : Below w.heap.size w w1 := by (repeat' (first | (with_reducible exact Below.refl _ _) | (with_reducible assumption) | (with_reducible refine Below.next ?_ (by with_reducible assumption)) | (with_reducible refine Below.drew ?_) | (with_reducible refine Below.laid ?_ _) | (with_reducible refine Below.setCell ?_ ?_ _) | (with_reducible refine size_of ?_) | (with_reducible refine Nat.le_succ_of_le ?_) | go_size))
    have BF : Blk w1 w.heap.size 41 #[.slice A l.length cA, .slice C c.length cC] := Blk.keep (by repeat (first | exact Blk.new _ _ _ | refine Blk.alloc ?_ _)) hb1
    have BW : Blk w1 (w.heap.size + 1) 44 #[.int .i64 th, .int .i64 a, .int .i64 b, .int .i64 d] := Blk.keep (by repeat (first | (refine Blk.newAt ?_ _ _; simp; done) | refine Blk.alloc ?_ _)) hb1
    obtain ⟨⟨BF0, BF1⟩, _⟩ := BF.cells2
    have BFl := BF.lt
    obtain ⟨BW0, BW1, BW2, BW3⟩ := BW.cells4
    have BWl := BW.lt
    go_wp2_with fail
    refine (ask_Of _ _ _ ls l c u _ (HL.out.keep (by (repeat' (first | (with_reducible exact Below.refl _ _) | (with_reducible assumption) | (with_reducible refine Below.next ?_ (by with_reducible assumption)) | (with_reducible refine Below.drew ?_) | (with_reducible refine Below.laid ?_ _) | (with_reducible refine Below.setCell ?_ ?_ _) | (with_reducible refine size_of ?_) | (with_reducible refine Nat.le_succ_of_le ?_) | go_size)))) (HA.out.keep (by (repeat' (first | (with_reducible exact Below.refl _ _) | (with_reducible assumption) | (with_reducible refine Below.next ?_ (by with_reducible assumption)) | (with_reducible refine Below.drew ?_) | (with_reducible refine Below.laid ?_ _) | (with_reducible refine Below.setCell ?_ ?_ _) | (with_reducible refine size_of ?_) | (with_reducible refine Nat.le_succ_of_le ?_) | go_size)))) (HC.out.keep (by (repeat' (first | (with_reducible exact Below.refl _ _) | (with_reducible assumption) | (with_reducible refine Below.next ?_ (by with_reducible assumption)) | (with_reducible refine Below.drew ?_) | (with_reducible refine Below.laid ?_ _) | (with_reducible refine Below.setCell ?_ ?_ _) | (with_reducible refine size_of ?_) | (with_reducible refine Nat.le_succ_of_le ?_) | go_size)))) (HK.out.keep (by (repeat' (first | (with_reducible exact Below.refl _ _) | (with_reducible assumption) | (with_reducible refine Below.next ?_ (by with_reducible assumption)) | (with_reducible refine Below.drew ?_) | (with_reducible refine Below.laid ?_ _) | (with_reducible refine Below.setCell ?_ ?_ _) | (with_reducible refine size_of ?_) | (with_reducible refine Nat.le_succ_of_le ?_) | go_size))))).mono ?_
    rintro e w2 ⟨rfl, hb2⟩
    rw [HX.out]
    have hq2 : Below w1.heap.size w1 w2 := by (repeat' (first | (with_reducible exact Below.refl _ _) | (with_reducible assumption) | (with_reducible refine Below.next ?_ (by with_reducible assumption)) | (with_reducible refine Below.drew ?_) | (with_reducible refine Below.laid ?_ _) | (with_reducible refine Below.setCell ?_ ?_ _) | (with_reducible refine size_of ?_) | (with_reducible refine Nat.le_succ_of_le ?_) | go_size))
    have hw2 : Below w.heap.size w w2 := Below.next hw1 hq2
    go_wp2
    go_ret
    exact ⟨rfl, hw2⟩
end Go.Proofs.YtnjamgmaclmlpaaDoor
