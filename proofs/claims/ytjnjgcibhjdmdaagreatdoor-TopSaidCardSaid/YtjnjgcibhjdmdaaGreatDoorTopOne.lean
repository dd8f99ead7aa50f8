/-
  THE WALK of venntop.one.
-/
import Derived.Test.YtjnjgcibhjdmdaaGreatDoorAsk
import Derived.Test.YtjnjgcibhjdmdaaGreatDoorFormG
namespace Go.Proofs.YtjnjgcibhjdmdaaGreatDoor
open Go.RowKit

theorem one_ask : askVv [Venn.moreForm 0 2] (Venn.moreForm 0 1) 2 = .tuple #[.int .i64 1, .nilIface] := by
  obtain ⟨g1, g2⟩ := Venn.ask_more 0 2 1 2 (by decide) (by decide) (by decide) (by decide) (by decide)
  rw [askVv, g1, g2]
  rfl
set_option maxHeartbeats 2000000 in
set_option maxRecDepth 100000 in
theorem venntop_one (w : World) (hk : KindsOk w) : Calls Tryz.prog 5 #[] w (Keeps (.bool true) w) := by
  have HK := Lib.hid hk
  have HX := Lib.hid one_ask
  clear hk
  go_enter Tryz.func5, Tryz.ntmps5
  go_wp2_with fail
  refine (ask_Of _ _ _ [Venn.moreForm 0 2] [⟨3, [0], [], 1⟩] [0] 2 _ (IsForms.one (t := 38) (f := Venn.moreForm 0 2) (by repeat (first | (refine Blk.newAt ?_ _ _; simp; done) | refine Blk.alloc ?_ _)) (IsAtoms.one (t := 32) (a := ⟨3, [0], [], 2⟩) (by repeat (first | (refine Blk.newAt ?_ _ _; simp; done) | refine Blk.alloc ?_ _)) (IsInts.of_blk1 (t := 3) (by repeat (first | (refine Blk.newAt ?_ _ _; simp; done) | refine Blk.alloc ?_ _))) (IsIntsNil _)) (IsInts.of_blk1 (t := 3) (by repeat (first | (refine Blk.newAt ?_ _ _; simp; done) | refine Blk.alloc ?_ _))))
    (IsAtoms.one (t := 32) (a := ⟨3, [0], [], 1⟩) (by repeat (first | (refine Blk.newAt ?_ _ _; simp; done) | refine Blk.alloc ?_ _)) (IsInts.of_blk1 (t := 3) (by repeat (first | (refine Blk.newAt ?_ _ _; simp; done) | refine Blk.alloc ?_ _))) (IsIntsNil _)) (IsInts.of_blk1 (t := 3) (by repeat (first | (refine Blk.newAt ?_ _ _; simp; done) | refine Blk.alloc ?_ _))) (HK.out.keep (by (repeat' (first | (with_reducible exact Below.refl _ _) | (with_reducible assumption) | (with_reducible refine Below.next ?_ (by with_reducible assumption)) | (with_reducible refine Below.drew ?_) | (with_reducible refine Below.laid ?_ _) | (with_reducible refine Below.setCell ?_ ?_ _) | (with_reducible refine size_of ?_) | (with_reducible refine Nat.le_succ_of_le ?_) | go_size))))).mono ?_
  rintro e w1 ⟨rfl, hb1⟩
  rw [HX.out]
  go_wp2
  go_ret
  exact ⟨rfl, by (repeat' (first | (with_reducible exact Below.refl _ _) | (with_reducible assumption) | (with_reducible refine Below.next ?_ (by with_reducible assumption)) | (with_reducible refine Below.drew ?_) | (with_reducible refine Below.laid ?_ _) | (with_reducible refine Below.setCell ?_ ?_ _) | (with_reducible refine size_of ?_) | (with_reducible refine Nat.le_succ_of_le ?_) | go_size))⟩
end Go.Proofs.YtjnjgcibhjdmdaaGreatDoor
