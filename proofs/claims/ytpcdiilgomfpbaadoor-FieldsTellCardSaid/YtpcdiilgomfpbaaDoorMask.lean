/-
  THE WALK of fields.Mask.
-/
import Derived.Test.YtpcdiilgomfpbaaDoorWhere
import Derived.Test.YtpcdiilgomfpbaaDoorApp
namespace Go.Proofs.YtpcdiilgomfpbaaDoor
open Go.RowKit

set_option maxHeartbeats 1000000 in
theorem fields_Mask (v : Value) (t : List Int) (w : World) (h : IsInts w v t) :
    Calls Tryd.prog 58 #[v] w (Keeps (.tuple #[.int .i64 (if Venn.termChk t = 0 then Venn.mask t else 0), errV (Venn.termChk t)]) w) := by
  by_cases hz : Venn.termChk t = 0
  · rw [if_pos hz, errV_zero hz]
    have hx := Lib.hid (errV_zero hz)
    have HZ := Lib.hid hz; clear hz
    go_enter Tryd.func58, Tryd.ntmps58
    go_wp2_with (first
      | (go_at_call 45; refine (term_Check _ t _ h).mono ?_; rintro e w' ⟨rfl, rfl⟩; rw [hx.out])
      | (go_at_call 100; refine (fields_Where _ t _ h HZ.out).mono ?_; rintro e w1 ⟨rfl, hb1⟩))
    go_ret2
    exact ⟨rfl, by (repeat' (first | (with_reducible exact Below.refl _ _) | (with_reducible refine Below.next ?_ (by with_reducible assumption)) | (with_reducible refine Below.drew ?_) | (with_reducible refine Below.laid ?_ _) | (with_reducible refine Below.setCell ?_ ?_ _) | (with_reducible refine size_of ?_) | (with_reducible refine Nat.le_succ_of_le ?_) | go_size))⟩
  · rw [if_neg hz, errV_ne hz]
    have hx := Lib.hid (errV_ne hz); clear hz
    go_enter Tryd.func58, Tryd.ntmps58
    go_wp2_with (first
      | (go_at_call 45; refine (term_Check _ t _ h).mono ?_; rintro e w' ⟨rfl, rfl⟩; rw [hx.out]))
    go_ret2
    exact ⟨rfl, by (repeat' (first | (with_reducible exact Below.refl _ _) | (with_reducible refine Below.next ?_ (by with_reducible assumption)) | (with_reducible refine Below.drew ?_) | (with_reducible refine Below.laid ?_ _) | (with_reducible refine Below.setCell ?_ ?_ _) | (with_reducible refine size_of ?_) | (with_reducible refine Nat.le_succ_of_le ?_) | go_size))⟩

theorem mask_lit (x c : Int) (h1 : Venn.termChk [x] = 0) (h2 : Venn.mask [x] = c) (w : World) (t : TypeId) :
    Calls Tryd.prog 58 #[.slice (some ⟨w.heap.size, 0, none⟩) 1 1] (w.alloc (.cells #[.int .i64 x] t)) (Keeps (.tuple #[.int .i64 c, .nilIface]) (w.alloc (.cells #[.int .i64 x] t))) := by
  have := fields_Mask _ [x] _ (IsInts.one w x t)
  rwa [if_pos h1, h2, errV_zero h1] at this

end Go.Proofs.YtpcdiilgomfpbaaDoor
