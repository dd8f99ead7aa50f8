/-
  THE WALKS of package sets: what each call computes.
-/
import Derived.Test.YtpcdiilgomfpbaaDoorBase
import Derived.Laws.BitsAllLaws
namespace Go.Proofs.YtpcdiilgomfpbaaDoor
open Go.RowKit

set_option maxHeartbeats 400000 in
theorem sets_Things (u : Int) (w : World) :
    Calls Tryd.prog 68 #[.int .i64 u] w (Pure (.bool (Venn.things u)) w) := by
  go_enter Tryd.func68, Tryd.ntmps68
  go_wp2
  all_goals
    go_ret
    refine ⟨ret_bool ?_, rfl⟩
    simp [Venn.things, *]
    try omega

theorem allS_wrap (u : Int) (h0 : 0 ≤ u) (h6 : u ≤ 6) : wrap64 (wrap64 (2 ^ u.toNat) - 1) = Venn.allS u := by
  obtain rfl | rfl | rfl | rfl | rfl | rfl | rfl : u = 0 ∨ u = 1 ∨ u = 2 ∨ u = 3 ∨ u = 4 ∨ u = 5 ∨ u = 6 := by omega
  all_goals decide +kernel

set_option maxHeartbeats 400000 in
theorem sets_All (u : Int) (w : World) (h : Venn.things u = true) :
    Calls Tryd.prog 108 #[.int .i64 u] w (Pure (.int .i64 (Venn.allS u)) w) := by
  obtain ⟨h0, h6⟩ : 0 ≤ u ∧ u ≤ 6 := by simpa [Venn.things] using h
  clear h
  go_enter Tryd.func108, Tryd.ntmps108
  go_wp2
  go_ret
  exact ⟨ret_int (allS_wrap u h0 h6), rfl⟩

set_option maxHeartbeats 400000 in
theorem sets_Right (u s : Int) (w : World) (h : Venn.things u = true) :
    Calls Tryd.prog 126 #[.int .i64 u, .int .i64 s] w (Pure (.bool (Venn.rightS u s)) w) := by
  go_enter Tryd.func126, Tryd.ntmps126
  go_wp2_with (go_at_call 108; refine (sets_All _ _ h).mono ?_; rintro e w' ⟨rfl, rfl⟩)
  all_goals
    go_ret
    refine ⟨ret_bool ?_, rfl⟩
    simp [Venn.rightS, *]
    try omega

set_option maxHeartbeats 400000 in
theorem sets_Check (u s : Int) (w : World) :
    Calls Tryd.prog 107 #[.int .i64 u, .int .i64 s] w (Pure (errV (Venn.setChk u s)) w) := by
  rcases hb : Venn.things u with _ | _
  · have hx : Hid (errV (Venn.setChk u s) = .iface 111 (.int .i64 1)) := by simp [Hid, Venn.setChk, hb, errV]
    go_enter Tryd.func107, Tryd.ntmps107
    go_wp2_with (go_at_call 68; refine (sets_Things _ _).mono ?_; rintro e w' ⟨rfl, rfl⟩)
    go_ret
    exact ⟨by rw [hx.out]; rfl, rfl⟩
  · rcases hr : Venn.rightS u s with _ | _
    · have hx : Hid (errV (Venn.setChk u s) = .iface 111 (.int .i64 1)) := by simp [Hid, Venn.setChk, hb, hr, errV]
      go_enter Tryd.func107, Tryd.ntmps107
      go_wp2_with (first | (go_at_call 68; refine (sets_Things _ _).mono ?_; rintro e w' ⟨rfl, rfl⟩) | (go_at_call 126; refine (sets_Right _ _ _ hb).mono ?_; rintro e w' ⟨rfl, rfl⟩))
      go_ret
      exact ⟨by rw [hx.out]; rfl, rfl⟩
    · have hx : Hid (errV (Venn.setChk u s) = .nilIface) := by simp [Hid, Venn.setChk, hb, hr, errV]
      go_enter Tryd.func107, Tryd.ntmps107
      go_wp2_with (first | (go_at_call 68; refine (sets_Things _ _).mono ?_; rintro e w' ⟨rfl, rfl⟩) | (go_at_call 126; refine (sets_Right _ _ _ hb).mono ?_; rintro e w' ⟨rfl, rfl⟩))
      go_ret
      exact ⟨by rw [hx.out]; rfl, rfl⟩

theorem bits_or_small : ∀ a b : Fin 64, bits .or .i64 ((a.val : Nat) : Int) ((b.val : Nat) : Int) = ((a.val ||| b.val : Nat) : Int) := by decide +kernel
theorem bits_and_small : ∀ a b : Fin 64, bits .and .i64 ((a.val : Nat) : Int) ((b.val : Nat) : Int) = ((a.val &&& b.val : Nat) : Int) := by decide +kernel
theorem bits_andNot_small : ∀ a b : Fin 64, bits .andNot .i64 ((a.val : Nat) : Int) ((b.val : Nat) : Int) = (Venn.andNot a.val b.val : Int) := by decide +kernel
theorem bits_or_64 {a b : Int} (ha : 0 ≤ a ∧ a ≤ 63) (hb : 0 ≤ b ∧ b ≤ 63) : bits .or .i64 a b = ((a.toNat ||| b.toNat : Nat) : Int) := by
  have := bits_or_small ⟨a.toNat, by omega⟩ ⟨b.toNat, by omega⟩
  simpa [Int.toNat_of_nonneg ha.1, Int.toNat_of_nonneg hb.1] using this
theorem bits_and_64 {a b : Int} (ha : 0 ≤ a ∧ a ≤ 63) (hb : 0 ≤ b ∧ b ≤ 63) : bits .and .i64 a b = ((a.toNat &&& b.toNat : Nat) : Int) := by
  have := bits_and_small ⟨a.toNat, by omega⟩ ⟨b.toNat, by omega⟩
  simpa [Int.toNat_of_nonneg ha.1, Int.toNat_of_nonneg hb.1] using this
theorem bits_andNot_64 {a b : Int} (ha : 0 ≤ a ∧ a ≤ 63) (hb : 0 ≤ b ∧ b ≤ 63) : bits .andNot .i64 a b = (Venn.andNot a.toNat b.toNat : Int) := by
  have := bits_andNot_small ⟨a.toNat, by omega⟩ ⟨b.toNat, by omega⟩
  simpa [Int.toNat_of_nonneg ha.1, Int.toNat_of_nonneg hb.1] using this
theorem allS_range {u : Int} (h : Venn.things u = true) : 0 ≤ Venn.allS u ∧ Venn.allS u ≤ 63 := by
  obtain ⟨h0, h6⟩ : 0 ≤ u ∧ u ≤ 6 := by simpa [Venn.things] using h
  obtain rfl | rfl | rfl | rfl | rfl | rfl | rfl : u = 0 ∨ u = 1 ∨ u = 2 ∨ u = 3 ∨ u = 4 ∨ u = 5 ∨ u = 6 := by omega
  all_goals decide +kernel

set_option maxHeartbeats 400000 in
theorem sets_Of (what u a b : Int) (w : World) (h : Venn.things u = true) (ha : 0 ≤ a ∧ a ≤ 63) (hb : 0 ≤ b ∧ b ≤ 63) :
    Calls Tryd.prog 109 #[.int .i64 what, .int .i64 u, .int .i64 a, .int .i64 b] w (Pure (.int .i64 (Venn.setOf what u a b)) w) := by
  have hA := allS_range h
  go_enter Tryd.func109, Tryd.ntmps109
  go_wp2_with (go_at_call 108; refine (sets_All _ _ h).mono ?_; rintro e w' ⟨rfl, rfl⟩)
  all_goals
    go_ret
    refine ⟨ret_int ?_, rfl⟩
    simp_all [Venn.setOf, bits_or_64, bits_and_64, bits_andNot_64]

set_option maxHeartbeats 400000 in
theorem bits_OnesCount64 (x : Int) (w : World) (h : 0 ≤ x ∧ x ≤ 63) :
    Calls Tryd.prog 129 #[.int .u64 x] w (Pure (.int .i64 (Venn.many x)) w) := by
  obtain ⟨n, rfl⟩ : ∃ n : Fin 64, x = ((n.val : Nat) : Int) := ⟨⟨x.toNat, by omega⟩, by simp; omega⟩
  go_enter Tryd.func129, Tryd.ntmps129
  go_wp2
  go_tidy
  go_ret
  refine ⟨ret_int ?_, rfl⟩
  clear h
  revert n
  decide +kernel

set_option maxHeartbeats 400000 in
theorem sets_Many (s : Int) (w : World) (h : 0 ≤ s ∧ s ≤ 63) :
    Calls Tryd.prog 78 #[.int .i64 s] w (Pure (.int .i64 (Venn.many s)) w) := by
  obtain ⟨h0, h6⟩ := h
  go_enter Tryd.func78, Tryd.ntmps78
  go_wp2_with (first | (go_at_call 129; refine (bits_OnesCount64 _ _ ⟨h0, h6⟩).mono ?_; rintro e w' ⟨rfl, rfl⟩) | (go_at_call 113; go_in))
  go_ret
  exact ⟨rfl, rfl⟩

theorem setChk_01 (u s : Int) : Venn.setChk u s = 0 ∨ Venn.setChk u s = 1 := by unfold Venn.setChk; split <;> simp
theorem setChk_ok {u s : Int} (h : Venn.setChk u s = 0) : Venn.things u = true ∧ 0 ≤ s ∧ s ≤ Venn.allS u := by
  unfold Venn.setChk at h
  split at h
  · rename_i hh; simp [Venn.rightS] at hh; exact ⟨hh.1, hh.2⟩
  · simp at h
theorem setChk_63 {u s : Int} (h : Venn.setChk u s = 0) : 0 ≤ s ∧ s ≤ 63 := by
  obtain ⟨h1, h2, h3⟩ := setChk_ok h
  have := allS_range h1
  omega

theorem setDo_cases (what u a b : Int) : (Venn.setChk u a = 1 ∧ Venn.setDoChk what u a b = 1) ∨ (Venn.setChk u a = 0 ∧ Venn.setChk u b = 1 ∧ Venn.setDoChk what u a b = 1) ∨
    (Venn.setChk u a = 0 ∧ Venn.setChk u b = 0 ∧ (what < 5 ∨ 8 < what) ∧ Venn.setDoChk what u a b = 1) ∨ (Venn.setChk u a = 0 ∧ Venn.setChk u b = 0 ∧ 5 ≤ what ∧ what ≤ 8 ∧ Venn.setDoChk what u a b = 0) := by
  unfold Venn.setDoChk
  rcases setChk_01 u a with h | h <;> rcases setChk_01 u b with h' | h' <;> simp [h, h']
  omega

end Go.Proofs.YtpcdiilgomfpbaaDoor
