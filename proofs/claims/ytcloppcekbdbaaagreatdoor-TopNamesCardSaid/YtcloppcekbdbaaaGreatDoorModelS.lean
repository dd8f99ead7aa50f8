/-
  THE WALKS of model.Missing, Against, Sure.
-/
import Derived.Test.YtcloppcekbdbaaaGreatDoorModelG
import Derived.Test.YtcloppcekbdbaaaGreatDoorNegate
import Derived.Test.YtcloppcekbdbaaaGreatDoorLawF
namespace Go.Proofs.YtcloppcekbdbaaaGreatDoor
open Go.RowKit

set_option maxHeartbeats 1000000 in
theorem model_Missing (e : Int) (he : e ≠ 0) (w : World) (hg : EtOk w) : Calls Tryz.prog 137 #[errV e] w (Keeps (.bool (e == 5)) w) := by
  rw [errV_ne he]
  have hgA : EtOk (w.alloc (.cells #[.int .i64 0] 92)) := hg.keep ((Below.refl _ w).alloc (Nat.le_refl _) _)
  have htA : (w.alloc (.cells #[.int .i64 0] 92)).cell? ⟨w.heap.size, 0, none⟩ = some (.int .i64 0) := by simp
  have hfA : (w.alloc (.cells #[.int .i64 0] 92)).frozen? ⟨w.heap.size, 0, none⟩ = false := by simp
  clear he
  go_enter Tryz.func137, Tryz.ntmps137
  go_wp2_with (go_at_call 116; refine (errors_As _ _ (.int .i64 0) _ hgA htA hfA).mono ?_; rintro e w' ⟨rfl, rfl⟩)
  go_ret
  exact ⟨rfl, by (repeat' (first | (with_reducible exact Below.refl _ _) | (with_reducible assumption) | (with_reducible refine Below.next ?_ (by with_reducible assumption)) | (with_reducible refine Below.drew ?_) | (with_reducible refine Below.laid ?_ _) | (with_reducible refine Below.setCell ?_ ?_ _) | (with_reducible refine size_of ?_) | (with_reducible refine Nat.le_succ_of_le ?_) | go_size))⟩

end Go.Proofs.YtcloppcekbdbaaaGreatDoor
