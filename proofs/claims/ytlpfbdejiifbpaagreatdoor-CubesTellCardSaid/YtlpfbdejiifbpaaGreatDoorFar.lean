/-
  THE WALKS of cubes.far and of the comparison that sorts a cube's members.
-/
import Derived.Test.YtlpfbdejiifbpaaGreatDoorMem
import Derived.Test.YtlpfbdejiifbpaaGreatDoorSortFL
import Derived.IntWalk
namespace Go.Proofs.YtlpfbdejiifbpaaGreatDoor
open Go.RowKit

/-- How far from 0, as the machine reckons it. -/
def farW (n : Int) : Int := max n (wrap64 (-n))
def cmpI (x y : Int) : Int := if x < y then -1 else if y < x then 1 else 0
def orI (a b : Int) : Int := if a = 0 then b else a
def cmpF (x y : Int) : Int := orI (cmpI (farW x) (farW y)) (cmpI x y)

set_option maxHeartbeats 1000000 in
theorem cubes_far (n : Int) (w : World) : Calls Tryz.prog 77 #[.int .i64 n] w (Pure (.int .i64 (farW n)) w) := by
  have HE := Lib.hid (show farW n = max n (wrap64 (-n)) from rfl)
  generalize farW n = F at HE ⊢
  go_enter Tryz.func77, Tryz.ntmps77
  go_wp2
  go_ret
  exact ⟨by rw [HE.out]; rfl, rfl⟩

theorem cmp_isNaN (n : Int) (w : World) : Calls Tryz.prog 127 #[.int .i64 n] w (Pure (.bool false) w) := by
  go_enter Tryz.func127, Tryz.ntmps127
  go_wp2
  go_ret
  exact ⟨by simp [go_sem], rfl⟩

set_option maxHeartbeats 1000000 in
theorem cmp_Compare (x y : Int) (w : World) : Calls Tryz.prog 118 #[.int .i64 x, .int .i64 y] w (Pure (.int .i64 (cmpI x y)) w) := by
  have HN := Lib.hid (fun n W => cmp_isNaN n W)
  unfold cmpI
  by_cases h1 : x < y
  · rw [if_pos h1]
    go_enter Tryz.func118, Tryz.ntmps118
    go_wp2_with (go_at_call 127; refine (HN.out _ _).mono ?_; rintro e w' ⟨rfl, rfl⟩)
    go_ret
    exact ⟨rfl, rfl⟩
  · rw [if_neg h1]
    by_cases h2 : y < x
    · rw [if_pos h2]
      go_enter Tryz.func118, Tryz.ntmps118
      go_wp2_with (go_at_call 127; refine (HN.out _ _).mono ?_; rintro e w' ⟨rfl, rfl⟩)
      go_ret
      exact ⟨rfl, rfl⟩
    · rw [if_neg h2]
      go_enter Tryz.func118, Tryz.ntmps118
      go_wp2_with (go_at_call 127; refine (HN.out _ _).mono ?_; rintro e w' ⟨rfl, rfl⟩)
      go_ret
      exact ⟨rfl, rfl⟩

set_option maxHeartbeats 1000000 in
theorem cmp_Or (g : Nat) (T : TypeId) (a b : Int) (w : World) (hv : Blk w g T #[.int .i64 a, .int .i64 b]) : Calls Tryz.prog 117 #[.slice (some ⟨g, 0, none⟩) 2 2] w (Pure (.int .i64 (orI a b)) w) := by
  have c0 := hv.cell 0
  have c1 := hv.cell 1
  clear hv
  unfold orI
  by_cases h1 : a = 0
  · subst h1
    rw [if_pos rfl]
    by_cases h2 : b = 0
    · subst h2
      go_enter Tryz.func117, Tryz.ntmps117
      go_wp2
      refine wp_loop_rounds 3 ?_
      rw [rounds_succ]
      go_wp2
      rw [rounds_succ]
      go_wp2
      rw [rounds_succ]
      go_wp2
      go_ret
      exact ⟨rfl, rfl⟩
    · have hb : (b != 0) = true := by simpa using h2
      go_enter Tryz.func117, Tryz.ntmps117
      go_wp2
      refine wp_loop_rounds 3 ?_
      rw [rounds_succ]
      go_wp2
      rw [rounds_succ]
      go_wp2
      go_ret
      exact ⟨rfl, rfl⟩
  · rw [if_neg h1]
    have hb : (a != 0) = true := by simpa using h1
    go_enter Tryz.func117, Tryz.ntmps117
    go_wp2
    refine wp_loop_rounds 3 ?_
    rw [rounds_succ]
    go_wp2
    go_ret
    exact ⟨rfl, rfl⟩

set_option maxHeartbeats 2000000 in
set_option maxRecDepth 100000 in
/-- The comparison: it lays one row of two. -/
theorem merge_cmp (x y : Int) (w : World) : Calls Tryz.prog 116 #[.int .i64 x, .int .i64 y] w (fun e w' => e = .returned (.int .i64 (cmpF x y)) ∧ w' = w.alloc (.cells #[.int .i64 (cmpI (farW x) (farW y)), .int .i64 (cmpI x y)] 3)) := by
  have HF := Lib.hid (fun n W => cubes_far n W)
  have HC1 := Lib.hid (fun W => cmp_Compare (farW x) (farW y) W)
  have HC2 := Lib.hid (fun W => cmp_Compare x y W)
  have HE := Lib.hid (show cmpF x y = orI (cmpI (farW x) (farW y)) (cmpI x y) from rfl)
  generalize cmpI (farW x) (farW y) = p at HC1 HE ⊢
  generalize cmpI x y = q at HC2 HE ⊢
  generalize cmpF x y = r at HE ⊢
  go_enter Tryz.func116, Tryz.ntmps116
  go_wp2_with fail
  refine (HF.out _ _).mono ?_
  rintro e w1 ⟨rfl, rfl⟩
  go_wp2_with fail
  refine (HF.out _ _).mono ?_
  rintro e w1 ⟨rfl, rfl⟩
  go_wp2_with fail
  refine (HC1.out _).mono ?_
  rintro e w1 ⟨rfl, rfl⟩
  go_wp2_with fail
  refine (HC2.out _).mono ?_
  rintro e w1 ⟨rfl, rfl⟩
  go_wp2_with fail
  refine (cmp_Or _ _ p q _ (Blk.new _ _ _)).mono ?_
  rintro e w1 ⟨rfl, rfl⟩
  go_wp2
  go_ret
  exact ⟨by rw [HE.out]; rfl, rfl⟩
end Go.Proofs.YtlpfbdejiifbpaaGreatDoor
