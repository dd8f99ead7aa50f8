/-
  THE WALKS of term.World, term.Value.
-/
import Derived.Test.YtpcdiilgomfpbaaDoorTermSet
namespace Go.Proofs.YtpcdiilgomfpbaaDoor
open Go.RowKit

theorem idx3_0 (a b c : Int) (W : World) : (Instr.index 39 (.agg #[.int .i64 a, .int .i64 b, .int .i64 c]) (.int .i64 0)).run Tryd.prog W = .ok (.int .i64 a) W := by kernel_rfl
theorem idx3_1 (a b c : Int) (W : World) : (Instr.index 39 (.agg #[.int .i64 a, .int .i64 b, .int .i64 c]) (.int .i64 1)).run Tryd.prog W = .ok (.int .i64 b) W := by kernel_rfl
theorem idx3_2 (a b c : Int) (W : World) : (Instr.index 39 (.agg #[.int .i64 a, .int .i64 b, .int .i64 c]) (.int .i64 2)).run Tryd.prog W = .ok (.int .i64 c) W := by kernel_rfl

set_option maxHeartbeats 1000000 in
theorem term_World (th a b c : Int) (w : World) : Calls Tryd.prog 71 #[.agg #[.int .i64 th, .int .i64 a, .int .i64 b, .int .i64 c]] w (Keeps (errV (Venn.worldChk ⟨th, a, b, c⟩)) w) := by
  have i0 := idx3_0 a b c
  have i1 := idx3_1 a b c
  have i2 := idx3_2 a b c
  have one : errV 1 = .iface 111 (.int .i64 1) := rfl
  rcases ht : Venn.things th with _ | _
  · rw [show Venn.worldChk ⟨th, a, b, c⟩ = 1 by simp [Venn.worldChk, ht], one]
    clear one
    go_enter Tryd.func71, Tryd.ntmps71
    go_wp2_with (go_at_call 68; refine (sets_Things _ _).mono ?_; rintro e w' ⟨rfl, rfl⟩)
    go_ret
    exact ⟨rfl, by (repeat' (first | (with_reducible exact Below.refl _ _) | (with_reducible refine Below.next ?_ (by with_reducible assumption)) | (with_reducible refine Below.drew ?_) | (with_reducible refine Below.laid ?_ _) | (with_reducible refine Below.setCell ?_ ?_ _) | (with_reducible refine size_of ?_) | (with_reducible refine Nat.le_succ_of_le ?_) | go_size))⟩
  rcases setChk_01 th a with ha | ha
  · rcases setChk_01 th b with hb | hb
    · rcases setChk_01 th c with hc | hc
      · rw [show Venn.worldChk ⟨th, a, b, c⟩ = 0 by simp [Venn.worldChk, ht, ha, hb, hc], errV_zero rfl]
        have hx := Lib.hid (errV_zero ha); have hy := Lib.hid (errV_zero hb); have hz := Lib.hid (errV_zero hc)
        clear ha hb hc one
        go_enter Tryd.func71, Tryd.ntmps71
        go_wp2_with (go_at_call 68; refine (sets_Things _ _).mono ?_; rintro e w' ⟨rfl, rfl⟩)
        refine wp_loop_rounds 4 ?_
        rw [rounds_succ]
        go_wp2_with (go_at_call 107; refine (sets_Check _ _ _).mono ?_; rintro e w' ⟨rfl, rfl⟩; rw [hx.out])
        rw [rounds_succ]
        go_wp2_with (go_at_call 107; refine (sets_Check _ _ _).mono ?_; rintro e w' ⟨rfl, rfl⟩; rw [hy.out])
        rw [rounds_succ]
        go_wp2_with (go_at_call 107; refine (sets_Check _ _ _).mono ?_; rintro e w' ⟨rfl, rfl⟩; rw [hz.out])
        rw [rounds_succ]
        go_wp2
        go_ret
        exact ⟨rfl, by (repeat' (first | (with_reducible exact Below.refl _ _) | (with_reducible refine Below.next ?_ (by with_reducible assumption)) | (with_reducible refine Below.drew ?_) | (with_reducible refine Below.laid ?_ _) | (with_reducible refine Below.setCell ?_ ?_ _) | (with_reducible refine size_of ?_) | (with_reducible refine Nat.le_succ_of_le ?_) | go_size))⟩
      · rw [show Venn.worldChk ⟨th, a, b, c⟩ = 1 by simp [Venn.worldChk, ht, ha, hb, hc], one]
        have hx := Lib.hid (errV_zero ha); have hy := Lib.hid (errV_zero hb); have hz := Lib.hid (show errV (Venn.setChk th c) = .iface 111 (.int .i64 1) by rw [hc]; rfl)
        clear ha hb hc one
        go_enter Tryd.func71, Tryd.ntmps71
        go_wp2_with (go_at_call 68; refine (sets_Things _ _).mono ?_; rintro e w' ⟨rfl, rfl⟩)
        refine wp_loop_rounds 4 ?_
        rw [rounds_succ]
        go_wp2_with (go_at_call 107; refine (sets_Check _ _ _).mono ?_; rintro e w' ⟨rfl, rfl⟩; rw [hx.out])
        rw [rounds_succ]
        go_wp2_with (go_at_call 107; refine (sets_Check _ _ _).mono ?_; rintro e w' ⟨rfl, rfl⟩; rw [hy.out])
        rw [rounds_succ]
        go_wp2_with (go_at_call 107; refine (sets_Check _ _ _).mono ?_; rintro e w' ⟨rfl, rfl⟩; rw [hz.out])
        go_ret
        exact ⟨rfl, by (repeat' (first | (with_reducible exact Below.refl _ _) | (with_reducible refine Below.next ?_ (by with_reducible assumption)) | (with_reducible refine Below.drew ?_) | (with_reducible refine Below.laid ?_ _) | (with_reducible refine Below.setCell ?_ ?_ _) | (with_reducible refine size_of ?_) | (with_reducible refine Nat.le_succ_of_le ?_) | go_size))⟩
    · rw [show Venn.worldChk ⟨th, a, b, c⟩ = 1 by simp [Venn.worldChk, ht, ha, hb], one]
      have hx := Lib.hid (errV_zero ha); have hy := Lib.hid (show errV (Venn.setChk th b) = .iface 111 (.int .i64 1) by rw [hb]; rfl)
      clear ha hb one
      go_enter Tryd.func71, Tryd.ntmps71
      go_wp2_with (go_at_call 68; refine (sets_Things _ _).mono ?_; rintro e w' ⟨rfl, rfl⟩)
      refine wp_loop_rounds 4 ?_
      rw [rounds_succ]
      go_wp2_with (go_at_call 107; refine (sets_Check _ _ _).mono ?_; rintro e w' ⟨rfl, rfl⟩; rw [hx.out])
      rw [rounds_succ]
      go_wp2_with (go_at_call 107; refine (sets_Check _ _ _).mono ?_; rintro e w' ⟨rfl, rfl⟩; rw [hy.out])
      go_ret
      exact ⟨rfl, by (repeat' (first | (with_reducible exact Below.refl _ _) | (with_reducible refine Below.next ?_ (by with_reducible assumption)) | (with_reducible refine Below.drew ?_) | (with_reducible refine Below.laid ?_ _) | (with_reducible refine Below.setCell ?_ ?_ _) | (with_reducible refine size_of ?_) | (with_reducible refine Nat.le_succ_of_le ?_) | go_size))⟩
  · rw [show Venn.worldChk ⟨th, a, b, c⟩ = 1 by simp [Venn.worldChk, ht, ha], one]
    have hx := Lib.hid (show errV (Venn.setChk th a) = .iface 111 (.int .i64 1) by rw [ha]; rfl)
    clear ha one
    go_enter Tryd.func71, Tryd.ntmps71
    go_wp2_with (go_at_call 68; refine (sets_Things _ _).mono ?_; rintro e w' ⟨rfl, rfl⟩)
    refine wp_loop_rounds 4 ?_
    rw [rounds_succ]
    go_wp2_with (go_at_call 107; refine (sets_Check _ _ _).mono ?_; rintro e w' ⟨rfl, rfl⟩; rw [hx.out])
    go_ret
    exact ⟨rfl, by (repeat' (first | (with_reducible exact Below.refl _ _) | (with_reducible refine Below.next ?_ (by with_reducible assumption)) | (with_reducible refine Below.drew ?_) | (with_reducible refine Below.laid ?_ _) | (with_reducible refine Below.setCell ?_ ?_ _) | (with_reducible refine size_of ?_) | (with_reducible refine Nat.le_succ_of_le ?_) | go_size))⟩

end Go.Proofs.YtpcdiilgomfpbaaDoor
