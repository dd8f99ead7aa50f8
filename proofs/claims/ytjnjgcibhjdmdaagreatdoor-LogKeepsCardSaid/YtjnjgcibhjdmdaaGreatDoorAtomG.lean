/-
  THE WALKS of package atom: Check, True, Holds.
  THE WALKS of atom.True, atom.Holds.
-/
import Derived.Test.YtjnjgcibhjdmdaaGreatDoorMem
import Derived.Test.YtjnjgcibhjdmdaaGreatDoorSetsT
import Derived.Test.YtjnjgcibhjdmdaaGreatDoorVennP1
import Derived.Deep.QuietTactic
import Derived.BigQuiet
namespace Go.Proofs.YtjnjgcibhjdmdaaGreatDoor
open Go.RowKit

/-- An atom as a value. -/
def atomV (sv tv : Value) (a : Venn.Atom) : Value := .agg #[.int .i64 a.what, sv, tv, .int .i64 a.n]

set_option maxHeartbeats 2000000 in
set_option maxRecDepth 100000 in
theorem atom_Check1 (n : Int) (sv tv : Value) (s t : List Int) (w : World) (hs : IsInts w sv s) (ht : IsInts w tv t) (hk : KindsOk w) :
    Calls Tryz.prog 25 #[.agg #[.int .i64 1, sv, tv, .int .i64 n]] w (Keeps (errV (Venn.atomChk ⟨1, s, t, n⟩)) w) := by
  obtain ⟨tA, tc, rfl, htr, htl, htc⟩ := ht
  have HTT : IsInts w (.slice tA t.length tc) t := ⟨tA, tc, rfl, htr, htl, htc⟩
  have k0 : w.cell? ⟨0, 3, none⟩ = some (str [115, 117, 98]) := hk 3 _ rfl
  have k1 : w.cell? ⟨0, 4, none⟩ = some (.bool true) := hk 4 _ rfl
  have k2 : w.cell? ⟨0, 5, none⟩ = some (.bool false) := hk 5 _ rfl
  have hg : 0 < w.heap.size := cell_lt k0
  unfold str at k0
  clear htr htl htc
  by_cases h1 : Venn.termChk s = 0
  · have hx := Lib.hid (errV_zero h1)
    by_cases h2 : Venn.termChk t = 0
    · have hy := Lib.hid (errV_zero h2)
      have hv : Venn.atomChk ⟨1, s, t, n⟩ = Venn.nChk 1 n := by simp [Venn.atomChk, h1, h2, Venn.hasT]
      rw [hv]
      clear hv h1 h2
      by_cases hb : n < -20
      · rw [show errV (Venn.nChk 1 n) = .iface 59 (.int .i64 1) from errV_ne (e := 1) (by decide) ▸ by rw [Venn.nChk, if_pos (by omega)]]
        go_enter Tryz.func25, Tryz.ntmps25
        go_wp2_with (go_at_call 49; refine (term_Check _ _ _ (by first | exact hs.keep (by (repeat' (first | (with_reducible exact Below.refl _ _) | (with_reducible assumption) | (with_reducible refine Below.next ?_ (by with_reducible assumption)) | (with_reducible refine Below.drew ?_) | (with_reducible refine Below.laid ?_ _) | (with_reducible refine Below.setCell ?_ ?_ _) | (with_reducible refine size_of ?_) | (with_reducible refine Nat.le_succ_of_le ?_) | go_size))) | exact HTT.keep (by (repeat' (first | (with_reducible exact Below.refl _ _) | (with_reducible assumption) | (with_reducible refine Below.next ?_ (by with_reducible assumption)) | (with_reducible refine Below.drew ?_) | (with_reducible refine Below.laid ?_ _) | (with_reducible refine Below.setCell ?_ ?_ _) | (with_reducible refine size_of ?_) | (with_reducible refine Nat.le_succ_of_le ?_) | go_size))))).mono ?_; rintro e w' ⟨rfl, rfl⟩; (first | rw [hx.out] | rw [hy.out]))
        all_goals (first | (exfalso; omega) | (go_ret; exact ⟨rfl, by (repeat' (first | (with_reducible exact Below.refl _ _) | (with_reducible assumption) | (with_reducible refine Below.next ?_ (by with_reducible assumption)) | (with_reducible refine Below.drew ?_) | (with_reducible refine Below.laid ?_ _) | (with_reducible refine Below.setCell ?_ ?_ _) | (with_reducible refine size_of ?_) | (with_reducible refine Nat.le_succ_of_le ?_) | go_size))⟩))
      have hn0 : ¬ n < -20 := hb
      clear hb
      by_cases hb : 20 < n
      · rw [show errV (Venn.nChk 1 n) = .iface 59 (.int .i64 1) from errV_ne (e := 1) (by decide) ▸ by rw [Venn.nChk, if_pos (by omega)]]
        go_enter Tryz.func25, Tryz.ntmps25
        go_wp2_with (go_at_call 49; refine (term_Check _ _ _ (by first | exact hs.keep (by (repeat' (first | (with_reducible exact Below.refl _ _) | (with_reducible assumption) | (with_reducible refine Below.next ?_ (by with_reducible assumption)) | (with_reducible refine Below.drew ?_) | (with_reducible refine Below.laid ?_ _) | (with_reducible refine Below.setCell ?_ ?_ _) | (with_reducible refine size_of ?_) | (with_reducible refine Nat.le_succ_of_le ?_) | go_size))) | exact HTT.keep (by (repeat' (first | (with_reducible exact Below.refl _ _) | (with_reducible assumption) | (with_reducible refine Below.next ?_ (by with_reducible assumption)) | (with_reducible refine Below.drew ?_) | (with_reducible refine Below.laid ?_ _) | (with_reducible refine Below.setCell ?_ ?_ _) | (with_reducible refine size_of ?_) | (with_reducible refine Nat.le_succ_of_le ?_) | go_size))))).mono ?_; rintro e w' ⟨rfl, rfl⟩; (first | rw [hx.out] | rw [hy.out]))
        all_goals (first | (exfalso; omega) | (go_ret; exact ⟨rfl, by (repeat' (first | (with_reducible exact Below.refl _ _) | (with_reducible assumption) | (with_reducible refine Below.next ?_ (by with_reducible assumption)) | (with_reducible refine Below.drew ?_) | (with_reducible refine Below.laid ?_ _) | (with_reducible refine Below.setCell ?_ ?_ _) | (with_reducible refine size_of ?_) | (with_reducible refine Nat.le_succ_of_le ?_) | go_size))⟩))
      have hn1 : ¬ 20 < n := hb
      clear hb
      by_cases hb : n ≠ 0
      · rw [show errV (Venn.nChk 1 n) = .iface 59 (.int .i64 1) from errV_ne (e := 1) (by decide) ▸ by rw [Venn.nChk, if_pos (by omega)]]
        have hnz : (n != 0) = true := by simpa using hb
        go_enter Tryz.func25, Tryz.ntmps25
        go_wp2_with (go_at_call 49; refine (term_Check _ _ _ (by first | exact hs.keep (by (repeat' (first | (with_reducible exact Below.refl _ _) | (with_reducible assumption) | (with_reducible refine Below.next ?_ (by with_reducible assumption)) | (with_reducible refine Below.drew ?_) | (with_reducible refine Below.laid ?_ _) | (with_reducible refine Below.setCell ?_ ?_ _) | (with_reducible refine size_of ?_) | (with_reducible refine Nat.le_succ_of_le ?_) | go_size))) | exact HTT.keep (by (repeat' (first | (with_reducible exact Below.refl _ _) | (with_reducible assumption) | (with_reducible refine Below.next ?_ (by with_reducible assumption)) | (with_reducible refine Below.drew ?_) | (with_reducible refine Below.laid ?_ _) | (with_reducible refine Below.setCell ?_ ?_ _) | (with_reducible refine size_of ?_) | (with_reducible refine Nat.le_succ_of_le ?_) | go_size))))).mono ?_; rintro e w' ⟨rfl, rfl⟩; (first | rw [hx.out] | rw [hy.out]))
        all_goals (first | (exfalso; omega) | (go_ret; exact ⟨rfl, by (repeat' (first | (with_reducible exact Below.refl _ _) | (with_reducible assumption) | (with_reducible refine Below.next ?_ (by with_reducible assumption)) | (with_reducible refine Below.drew ?_) | (with_reducible refine Below.laid ?_ _) | (with_reducible refine Below.setCell ?_ ?_ _) | (with_reducible refine size_of ?_) | (with_reducible refine Nat.le_succ_of_le ?_) | go_size))⟩))
      have hnz : (n != 0) = false := by simpa using hb
      obtain rfl : n = 0 := by omega
      clear hb
      rw [show errV (Venn.nChk 1 0) = .nilIface from errV_zero (by rw [Venn.nChk, if_neg (by omega)])]
      go_enter Tryz.func25, Tryz.ntmps25
      go_wp2_with (go_at_call 49; refine (term_Check _ _ _ (by first | exact hs.keep (by (repeat' (first | (with_reducible exact Below.refl _ _) | (with_reducible assumption) | (with_reducible refine Below.next ?_ (by with_reducible assumption)) | (with_reducible refine Below.drew ?_) | (with_reducible refine Below.laid ?_ _) | (with_reducible refine Below.setCell ?_ ?_ _) | (with_reducible refine size_of ?_) | (with_reducible refine Nat.le_succ_of_le ?_) | go_size))) | exact HTT.keep (by (repeat' (first | (with_reducible exact Below.refl _ _) | (with_reducible assumption) | (with_reducible refine Below.next ?_ (by with_reducible assumption)) | (with_reducible refine Below.drew ?_) | (with_reducible refine Below.laid ?_ _) | (with_reducible refine Below.setCell ?_ ?_ _) | (with_reducible refine size_of ?_) | (with_reducible refine Nat.le_succ_of_le ?_) | go_size))))).mono ?_; rintro e w' ⟨rfl, rfl⟩; (first | rw [hx.out] | rw [hy.out]))
      all_goals (first | (exfalso; omega) | (go_ret; exact ⟨rfl, by (repeat' (first | (with_reducible exact Below.refl _ _) | (with_reducible assumption) | (with_reducible refine Below.next ?_ (by with_reducible assumption)) | (with_reducible refine Below.drew ?_) | (with_reducible refine Below.laid ?_ _) | (with_reducible refine Below.setCell ?_ ?_ _) | (with_reducible refine size_of ?_) | (with_reducible refine Nat.le_succ_of_le ?_) | go_size))⟩))
    · have hy := Lib.hid (errV_ne h2)
      have hv : Venn.atomChk ⟨1, s, t, n⟩ = Venn.termChk t := by simp [Venn.atomChk, h1, h2, Venn.hasT]
      rw [hv, errV_ne h2]
      clear hv h1 h2
      go_enter Tryz.func25, Tryz.ntmps25
      go_wp2_with (go_at_call 49; refine (term_Check _ _ _ (by first | exact hs.keep (by (repeat' (first | (with_reducible exact Below.refl _ _) | (with_reducible assumption) | (with_reducible refine Below.next ?_ (by with_reducible assumption)) | (with_reducible refine Below.drew ?_) | (with_reducible refine Below.laid ?_ _) | (with_reducible refine Below.setCell ?_ ?_ _) | (with_reducible refine size_of ?_) | (with_reducible refine Nat.le_succ_of_le ?_) | go_size))) | exact HTT.keep (by (repeat' (first | (with_reducible exact Below.refl _ _) | (with_reducible assumption) | (with_reducible refine Below.next ?_ (by with_reducible assumption)) | (with_reducible refine Below.drew ?_) | (with_reducible refine Below.laid ?_ _) | (with_reducible refine Below.setCell ?_ ?_ _) | (with_reducible refine size_of ?_) | (with_reducible refine Nat.le_succ_of_le ?_) | go_size))))).mono ?_; rintro e w' ⟨rfl, rfl⟩; (first | rw [hx.out] | rw [hy.out]))
      go_ret
      exact ⟨rfl, by (repeat' (first | (with_reducible exact Below.refl _ _) | (with_reducible assumption) | (with_reducible refine Below.next ?_ (by with_reducible assumption)) | (with_reducible refine Below.drew ?_) | (with_reducible refine Below.laid ?_ _) | (with_reducible refine Below.setCell ?_ ?_ _) | (with_reducible refine size_of ?_) | (with_reducible refine Nat.le_succ_of_le ?_) | go_size))⟩
  · have hx := Lib.hid (errV_ne h1)
    have hv : Venn.atomChk ⟨1, s, t, n⟩ = Venn.termChk s := by simp [Venn.atomChk, h1]
    rw [hv, errV_ne h1]
    clear hv h1
    go_enter Tryz.func25, Tryz.ntmps25
    go_wp2_with (go_at_call 49; refine (term_Check _ s _ (hs.keep (by (repeat' (first | (with_reducible exact Below.refl _ _) | (with_reducible assumption) | (with_reducible refine Below.next ?_ (by with_reducible assumption)) | (with_reducible refine Below.drew ?_) | (with_reducible refine Below.laid ?_ _) | (with_reducible refine Below.setCell ?_ ?_ _) | (with_reducible refine size_of ?_) | (with_reducible refine Nat.le_succ_of_le ?_) | go_size))))).mono ?_; rintro e w' ⟨rfl, rfl⟩; rw [hx.out])
    go_ret
    exact ⟨rfl, by (repeat' (first | (with_reducible exact Below.refl _ _) | (with_reducible assumption) | (with_reducible refine Below.next ?_ (by with_reducible assumption)) | (with_reducible refine Below.drew ?_) | (with_reducible refine Below.laid ?_ _) | (with_reducible refine Below.setCell ?_ ?_ _) | (with_reducible refine size_of ?_) | (with_reducible refine Nat.le_succ_of_le ?_) | go_size))⟩

set_option maxHeartbeats 2000000 in
set_option maxRecDepth 100000 in
theorem atom_Check2 (n : Int) (sv tv : Value) (s t : List Int) (w : World) (hs : IsInts w sv s) (ht : IsInts w tv t) (hk : KindsOk w) :
    Calls Tryz.prog 25 #[.agg #[.int .i64 2, sv, tv, .int .i64 n]] w (Keeps (errV (Venn.atomChk ⟨2, s, t, n⟩)) w) := by
  obtain ⟨tA, tc, rfl, htr, htl, htc⟩ := ht
  have HTT : IsInts w (.slice tA t.length tc) t := ⟨tA, tc, rfl, htr, htl, htc⟩
  have k0 : w.cell? ⟨0, 6, none⟩ = some (str [115, 97, 109, 101]) := hk 6 _ rfl
  have k1 : w.cell? ⟨0, 7, none⟩ = some (.bool true) := hk 7 _ rfl
  have k2 : w.cell? ⟨0, 8, none⟩ = some (.bool false) := hk 8 _ rfl
  have hg : 0 < w.heap.size := cell_lt k0
  unfold str at k0
  clear htr htl htc
  by_cases h1 : Venn.termChk s = 0
  · have hx := Lib.hid (errV_zero h1)
    by_cases h2 : Venn.termChk t = 0
    · have hy := Lib.hid (errV_zero h2)
      have hv : Venn.atomChk ⟨2, s, t, n⟩ = Venn.nChk 2 n := by simp [Venn.atomChk, h1, h2, Venn.hasT]
      rw [hv]
      clear hv h1 h2
      by_cases hb : n < -20
      · rw [show errV (Venn.nChk 2 n) = .iface 59 (.int .i64 1) from errV_ne (e := 1) (by decide) ▸ by rw [Venn.nChk, if_pos (by omega)]]
        go_enter Tryz.func25, Tryz.ntmps25
        go_wp2_with (go_at_call 49; refine (term_Check _ _ _ (by first | exact hs.keep (by (repeat' (first | (with_reducible exact Below.refl _ _) | (with_reducible assumption) | (with_reducible refine Below.next ?_ (by with_reducible assumption)) | (with_reducible refine Below.drew ?_) | (with_reducible refine Below.laid ?_ _) | (with_reducible refine Below.setCell ?_ ?_ _) | (with_reducible refine size_of ?_) | (with_reducible refine Nat.le_succ_of_le ?_) | go_size))) | exact HTT.keep (by (repeat' (first | (with_reducible exact Below.refl _ _) | (with_reducible assumption) | (with_reducible refine Below.next ?_ (by with_reducible assumption)) | (with_reducible refine Below.drew ?_) | (with_reducible refine Below.laid ?_ _) | (with_reducible refine Below.setCell ?_ ?_ _) | (with_reducible refine size_of ?_) | (with_reducible refine Nat.le_succ_of_le ?_) | go_size))))).mono ?_; rintro e w' ⟨rfl, rfl⟩; (first | rw [hx.out] | rw [hy.out]))
        all_goals (first | (exfalso; omega) | (go_ret; exact ⟨rfl, by (repeat' (first | (with_reducible exact Below.refl _ _) | (with_reducible assumption) | (with_reducible refine Below.next ?_ (by with_reducible assumption)) | (with_reducible refine Below.drew ?_) | (with_reducible refine Below.laid ?_ _) | (with_reducible refine Below.setCell ?_ ?_ _) | (with_reducible refine size_of ?_) | (with_reducible refine Nat.le_succ_of_le ?_) | go_size))⟩))
      have hn0 : ¬ n < -20 := hb
      clear hb
      by_cases hb : 20 < n
      · rw [show errV (Venn.nChk 2 n) = .iface 59 (.int .i64 1) from errV_ne (e := 1) (by decide) ▸ by rw [Venn.nChk, if_pos (by omega)]]
        go_enter Tryz.func25, Tryz.ntmps25
        go_wp2_with (go_at_call 49; refine (term_Check _ _ _ (by first | exact hs.keep (by (repeat' (first | (with_reducible exact Below.refl _ _) | (with_reducible assumption) | (with_reducible refine Below.next ?_ (by with_reducible assumption)) | (with_reducible refine Below.drew ?_) | (with_reducible refine Below.laid ?_ _) | (with_reducible refine Below.setCell ?_ ?_ _) | (with_reducible refine size_of ?_) | (with_reducible refine Nat.le_succ_of_le ?_) | go_size))) | exact HTT.keep (by (repeat' (first | (with_reducible exact Below.refl _ _) | (with_reducible assumption) | (with_reducible refine Below.next ?_ (by with_reducible assumption)) | (with_reducible refine Below.drew ?_) | (with_reducible refine Below.laid ?_ _) | (with_reducible refine Below.setCell ?_ ?_ _) | (with_reducible refine size_of ?_) | (with_reducible refine Nat.le_succ_of_le ?_) | go_size))))).mono ?_; rintro e w' ⟨rfl, rfl⟩; (first | rw [hx.out] | rw [hy.out]))
        all_goals (first | (exfalso; omega) | (go_ret; exact ⟨rfl, by (repeat' (first | (with_reducible exact Below.refl _ _) | (with_reducible assumption) | (with_reducible refine Below.next ?_ (by with_reducible assumption)) | (with_reducible refine Below.drew ?_) | (with_reducible refine Below.laid ?_ _) | (with_reducible refine Below.setCell ?_ ?_ _) | (with_reducible refine size_of ?_) | (with_reducible refine Nat.le_succ_of_le ?_) | go_size))⟩))
      have hn1 : ¬ 20 < n := hb
      clear hb
      by_cases hb : n ≠ 0
      · rw [show errV (Venn.nChk 2 n) = .iface 59 (.int .i64 1) from errV_ne (e := 1) (by decide) ▸ by rw [Venn.nChk, if_pos (by omega)]]
        have hnz : (n != 0) = true := by simpa using hb
        go_enter Tryz.func25, Tryz.ntmps25
        go_wp2_with (go_at_call 49; refine (term_Check _ _ _ (by first | exact hs.keep (by (repeat' (first | (with_reducible exact Below.refl _ _) | (with_reducible assumption) | (with_reducible refine Below.next ?_ (by with_reducible assumption)) | (with_reducible refine Below.drew ?_) | (with_reducible refine Below.laid ?_ _) | (with_reducible refine Below.setCell ?_ ?_ _) | (with_reducible refine size_of ?_) | (with_reducible refine Nat.le_succ_of_le ?_) | go_size))) | exact HTT.keep (by (repeat' (first | (with_reducible exact Below.refl _ _) | (with_reducible assumption) | (with_reducible refine Below.next ?_ (by with_reducible assumption)) | (with_reducible refine Below.drew ?_) | (with_reducible refine Below.laid ?_ _) | (with_reducible refine Below.setCell ?_ ?_ _) | (with_reducible refine size_of ?_) | (with_reducible refine Nat.le_succ_of_le ?_) | go_size))))).mono ?_; rintro e w' ⟨rfl, rfl⟩; (first | rw [hx.out] | rw [hy.out]))
        all_goals (first | (exfalso; omega) | (go_ret; exact ⟨rfl, by (repeat' (first | (with_reducible exact Below.refl _ _) | (with_reducible assumption) | (with_reducible refine Below.next ?_ (by with_reducible assumption)) | (with_reducible refine Below.drew ?_) | (with_reducible refine Below.laid ?_ _) | (with_reducible refine Below.setCell ?_ ?_ _) | (with_reducible refine size_of ?_) | (with_reducible refine Nat.le_succ_of_le ?_) | go_size))⟩))
      have hnz : (n != 0) = false := by simpa using hb
      obtain rfl : n = 0 := by omega
      clear hb
      rw [show errV (Venn.nChk 2 0) = .nilIface from errV_zero (by rw [Venn.nChk, if_neg (by omega)])]
      go_enter Tryz.func25, Tryz.ntmps25
      go_wp2_with (go_at_call 49; refine (term_Check _ _ _ (by first | exact hs.keep (by (repeat' (first | (with_reducible exact Below.refl _ _) | (with_reducible assumption) | (with_reducible refine Below.next ?_ (by with_reducible assumption)) | (with_reducible refine Below.drew ?_) | (with_reducible refine Below.laid ?_ _) | (with_reducible refine Below.setCell ?_ ?_ _) | (with_reducible refine size_of ?_) | (with_reducible refine Nat.le_succ_of_le ?_) | go_size))) | exact HTT.keep (by (repeat' (first | (with_reducible exact Below.refl _ _) | (with_reducible assumption) | (with_reducible refine Below.next ?_ (by with_reducible assumption)) | (with_reducible refine Below.drew ?_) | (with_reducible refine Below.laid ?_ _) | (with_reducible refine Below.setCell ?_ ?_ _) | (with_reducible refine size_of ?_) | (with_reducible refine Nat.le_succ_of_le ?_) | go_size))))).mono ?_; rintro e w' ⟨rfl, rfl⟩; (first | rw [hx.out] | rw [hy.out]))
      all_goals (first | (exfalso; omega) | (go_ret; exact ⟨rfl, by (repeat' (first | (with_reducible exact Below.refl _ _) | (with_reducible assumption) | (with_reducible refine Below.next ?_ (by with_reducible assumption)) | (with_reducible refine Below.drew ?_) | (with_reducible refine Below.laid ?_ _) | (with_reducible refine Below.setCell ?_ ?_ _) | (with_reducible refine size_of ?_) | (with_reducible refine Nat.le_succ_of_le ?_) | go_size))⟩))
    · have hy := Lib.hid (errV_ne h2)
      have hv : Venn.atomChk ⟨2, s, t, n⟩ = Venn.termChk t := by simp [Venn.atomChk, h1, h2, Venn.hasT]
      rw [hv, errV_ne h2]
      clear hv h1 h2
      go_enter Tryz.func25, Tryz.ntmps25
      go_wp2_with (go_at_call 49; refine (term_Check _ _ _ (by first | exact hs.keep (by (repeat' (first | (with_reducible exact Below.refl _ _) | (with_reducible assumption) | (with_reducible refine Below.next ?_ (by with_reducible assumption)) | (with_reducible refine Below.drew ?_) | (with_reducible refine Below.laid ?_ _) | (with_reducible refine Below.setCell ?_ ?_ _) | (with_reducible refine size_of ?_) | (with_reducible refine Nat.le_succ_of_le ?_) | go_size))) | exact HTT.keep (by (repeat' (first | (with_reducible exact Below.refl _ _) | (with_reducible assumption) | (with_reducible refine Below.next ?_ (by with_reducible assumption)) | (with_reducible refine Below.drew ?_) | (with_reducible refine Below.laid ?_ _) | (with_reducible refine Below.setCell ?_ ?_ _) | (with_reducible refine size_of ?_) | (with_reducible refine Nat.le_succ_of_le ?_) | go_size))))).mono ?_; rintro e w' ⟨rfl, rfl⟩; (first | rw [hx.out] | rw [hy.out]))
      go_ret
      exact ⟨rfl, by (repeat' (first | (with_reducible exact Below.refl _ _) | (with_reducible assumption) | (with_reducible refine Below.next ?_ (by with_reducible assumption)) | (with_reducible refine Below.drew ?_) | (with_reducible refine Below.laid ?_ _) | (with_reducible refine Below.setCell ?_ ?_ _) | (with_reducible refine size_of ?_) | (with_reducible refine Nat.le_succ_of_le ?_) | go_size))⟩
  · have hx := Lib.hid (errV_ne h1)
    have hv : Venn.atomChk ⟨2, s, t, n⟩ = Venn.termChk s := by simp [Venn.atomChk, h1]
    rw [hv, errV_ne h1]
    clear hv h1
    go_enter Tryz.func25, Tryz.ntmps25
    go_wp2_with (go_at_call 49; refine (term_Check _ s _ (hs.keep (by (repeat' (first | (with_reducible exact Below.refl _ _) | (with_reducible assumption) | (with_reducible refine Below.next ?_ (by with_reducible assumption)) | (with_reducible refine Below.drew ?_) | (with_reducible refine Below.laid ?_ _) | (with_reducible refine Below.setCell ?_ ?_ _) | (with_reducible refine size_of ?_) | (with_reducible refine Nat.le_succ_of_le ?_) | go_size))))).mono ?_; rintro e w' ⟨rfl, rfl⟩; rw [hx.out])
    go_ret
    exact ⟨rfl, by (repeat' (first | (with_reducible exact Below.refl _ _) | (with_reducible assumption) | (with_reducible refine Below.next ?_ (by with_reducible assumption)) | (with_reducible refine Below.drew ?_) | (with_reducible refine Below.laid ?_ _) | (with_reducible refine Below.setCell ?_ ?_ _) | (with_reducible refine size_of ?_) | (with_reducible refine Nat.le_succ_of_le ?_) | go_size))⟩

set_option maxHeartbeats 2000000 in
set_option maxRecDepth 100000 in
theorem atom_Check3 (n : Int) (sv tv : Value) (s t : List Int) (w : World) (hs : IsInts w sv s) (ht : IsInts w tv t) (hk : KindsOk w) :
    Calls Tryz.prog 25 #[.agg #[.int .i64 3, sv, tv, .int .i64 n]] w (Keeps (errV (Venn.atomChk ⟨3, s, t, n⟩)) w) := by
  obtain ⟨tA, tc, rfl, htr, htl, htc⟩ := ht
  have HTT : IsInts w (.slice tA t.length tc) t := ⟨tA, tc, rfl, htr, htl, htc⟩
  have k0 : w.cell? ⟨0, 9, none⟩ = some (str [108, 101, 97, 115, 116]) := hk 9 _ rfl
  have k1 : w.cell? ⟨0, 10, none⟩ = some (.bool false) := hk 10 _ rfl
  have k2 : w.cell? ⟨0, 11, none⟩ = some (.bool true) := hk 11 _ rfl
  have hg : 0 < w.heap.size := cell_lt k0
  unfold str at k0
  clear htr htl htc
  by_cases h1 : Venn.termChk s = 0
  · have hx := Lib.hid (errV_zero h1)
    by_cases h2 : t = []
    · subst h2
      have hv : Venn.atomChk ⟨3, s, [], n⟩ = Venn.nChk 3 n := by simp [Venn.atomChk, h1, Venn.hasT]
      rw [hv]
      clear hv h1
      by_cases hb : n < -20
      · rw [show errV (Venn.nChk 3 n) = .iface 59 (.int .i64 1) from errV_ne (e := 1) (by decide) ▸ by rw [Venn.nChk, if_pos (by omega)]]
        go_enter Tryz.func25, Tryz.ntmps25
        go_wp2_with (go_at_call 49; refine (term_Check _ s _ (hs.keep (by (repeat' (first | (with_reducible exact Below.refl _ _) | (with_reducible assumption) | (with_reducible refine Below.next ?_ (by with_reducible assumption)) | (with_reducible refine Below.drew ?_) | (with_reducible refine Below.laid ?_ _) | (with_reducible refine Below.setCell ?_ ?_ _) | (with_reducible refine size_of ?_) | (with_reducible refine Nat.le_succ_of_le ?_) | go_size))))).mono ?_; rintro e w' ⟨rfl, rfl⟩; rw [hx.out])
        all_goals (first | (exfalso; omega) | (go_ret; exact ⟨rfl, by (repeat' (first | (with_reducible exact Below.refl _ _) | (with_reducible assumption) | (with_reducible refine Below.next ?_ (by with_reducible assumption)) | (with_reducible refine Below.drew ?_) | (with_reducible refine Below.laid ?_ _) | (with_reducible refine Below.setCell ?_ ?_ _) | (with_reducible refine size_of ?_) | (with_reducible refine Nat.le_succ_of_le ?_) | go_size))⟩))
      have hn0 : ¬ n < -20 := hb
      clear hb
      by_cases hb : 20 < n
      · rw [show errV (Venn.nChk 3 n) = .iface 59 (.int .i64 1) from errV_ne (e := 1) (by decide) ▸ by rw [Venn.nChk, if_pos (by omega)]]
        go_enter Tryz.func25, Tryz.ntmps25
        go_wp2_with (go_at_call 49; refine (term_Check _ s _ (hs.keep (by (repeat' (first | (with_reducible exact Below.refl _ _) | (with_reducible assumption) | (with_reducible refine Below.next ?_ (by with_reducible assumption)) | (with_reducible refine Below.drew ?_) | (with_reducible refine Below.laid ?_ _) | (with_reducible refine Below.setCell ?_ ?_ _) | (with_reducible refine size_of ?_) | (with_reducible refine Nat.le_succ_of_le ?_) | go_size))))).mono ?_; rintro e w' ⟨rfl, rfl⟩; rw [hx.out])
        all_goals (first | (exfalso; omega) | (go_ret; exact ⟨rfl, by (repeat' (first | (with_reducible exact Below.refl _ _) | (with_reducible assumption) | (with_reducible refine Below.next ?_ (by with_reducible assumption)) | (with_reducible refine Below.drew ?_) | (with_reducible refine Below.laid ?_ _) | (with_reducible refine Below.setCell ?_ ?_ _) | (with_reducible refine size_of ?_) | (with_reducible refine Nat.le_succ_of_le ?_) | go_size))⟩))
      have hn1 : ¬ 20 < n := hb
      clear hb
      rw [show errV (Venn.nChk 3 n) = .nilIface from errV_zero (by rw [Venn.nChk, if_neg (by omega)])]
      go_enter Tryz.func25, Tryz.ntmps25
      go_wp2_with (go_at_call 49; refine (term_Check _ s _ (hs.keep (by (repeat' (first | (with_reducible exact Below.refl _ _) | (with_reducible assumption) | (with_reducible refine Below.next ?_ (by with_reducible assumption)) | (with_reducible refine Below.drew ?_) | (with_reducible refine Below.laid ?_ _) | (with_reducible refine Below.setCell ?_ ?_ _) | (with_reducible refine size_of ?_) | (with_reducible refine Nat.le_succ_of_le ?_) | go_size))))).mono ?_; rintro e w' ⟨rfl, rfl⟩; rw [hx.out])
      all_goals (first | (exfalso; omega) | (go_ret; exact ⟨rfl, by (repeat' (first | (with_reducible exact Below.refl _ _) | (with_reducible assumption) | (with_reducible refine Below.next ?_ (by with_reducible assumption)) | (with_reducible refine Below.drew ?_) | (with_reducible refine Below.laid ?_ _) | (with_reducible refine Below.setCell ?_ ?_ _) | (with_reducible refine size_of ?_) | (with_reducible refine Nat.le_succ_of_le ?_) | go_size))⟩))
    · have hp : 0 < t.length := by
        rcases t with _ | ⟨x, t⟩
        · exact absurd rfl h2
        · simp
      have hv : Venn.atomChk ⟨3, s, t, n⟩ = 3 := by simp [Venn.atomChk, h1, h2, Venn.hasT]
      rw [hv, show errV 3 = .iface 59 (.int .i64 3) from rfl]
      clear hv h1 h2
      go_enter Tryz.func25, Tryz.ntmps25
      go_wp2_with (go_at_call 49; refine (term_Check _ s _ (hs.keep (by (repeat' (first | (with_reducible exact Below.refl _ _) | (with_reducible assumption) | (with_reducible refine Below.next ?_ (by with_reducible assumption)) | (with_reducible refine Below.drew ?_) | (with_reducible refine Below.laid ?_ _) | (with_reducible refine Below.setCell ?_ ?_ _) | (with_reducible refine size_of ?_) | (with_reducible refine Nat.le_succ_of_le ?_) | go_size))))).mono ?_; rintro e w' ⟨rfl, rfl⟩; rw [hx.out])
      go_ret
      exact ⟨rfl, by (repeat' (first | (with_reducible exact Below.refl _ _) | (with_reducible assumption) | (with_reducible refine Below.next ?_ (by with_reducible assumption)) | (with_reducible refine Below.drew ?_) | (with_reducible refine Below.laid ?_ _) | (with_reducible refine Below.setCell ?_ ?_ _) | (with_reducible refine size_of ?_) | (with_reducible refine Nat.le_succ_of_le ?_) | go_size))⟩
  · have hx := Lib.hid (errV_ne h1)
    have hv : Venn.atomChk ⟨3, s, t, n⟩ = Venn.termChk s := by simp [Venn.atomChk, h1]
    rw [hv, errV_ne h1]
    clear hv h1
    go_enter Tryz.func25, Tryz.ntmps25
    go_wp2_with (go_at_call 49; refine (term_Check _ s _ (hs.keep (by (repeat' (first | (with_reducible exact Below.refl _ _) | (with_reducible assumption) | (with_reducible refine Below.next ?_ (by with_reducible assumption)) | (with_reducible refine Below.drew ?_) | (with_reducible refine Below.laid ?_ _) | (with_reducible refine Below.setCell ?_ ?_ _) | (with_reducible refine size_of ?_) | (with_reducible refine Nat.le_succ_of_le ?_) | go_size))))).mono ?_; rintro e w' ⟨rfl, rfl⟩; rw [hx.out])
    go_ret
    exact ⟨rfl, by (repeat' (first | (with_reducible exact Below.refl _ _) | (with_reducible assumption) | (with_reducible refine Below.next ?_ (by with_reducible assumption)) | (with_reducible refine Below.drew ?_) | (with_reducible refine Below.laid ?_ _) | (with_reducible refine Below.setCell ?_ ?_ _) | (with_reducible refine size_of ?_) | (with_reducible refine Nat.le_succ_of_le ?_) | go_size))⟩

set_option maxHeartbeats 2000000 in
set_option maxRecDepth 100000 in
theorem atom_Check4 (n : Int) (sv tv : Value) (s t : List Int) (w : World) (hs : IsInts w sv s) (ht : IsInts w tv t) (hk : KindsOk w) :
    Calls Tryz.prog 25 #[.agg #[.int .i64 4, sv, tv, .int .i64 n]] w (Keeps (errV (Venn.atomChk ⟨4, s, t, n⟩)) w) := by
  obtain ⟨tA, tc, rfl, htr, htl, htc⟩ := ht
  have HTT : IsInts w (.slice tA t.length tc) t := ⟨tA, tc, rfl, htr, htl, htc⟩
  have k0 : w.cell? ⟨0, 12, none⟩ = some (str [109, 111, 115, 116]) := hk 12 _ rfl
  have k1 : w.cell? ⟨0, 13, none⟩ = some (.bool false) := hk 13 _ rfl
  have k2 : w.cell? ⟨0, 14, none⟩ = some (.bool true) := hk 14 _ rfl
  have hg : 0 < w.heap.size := cell_lt k0
  unfold str at k0
  clear htr htl htc
  by_cases h1 : Venn.termChk s = 0
  · have hx := Lib.hid (errV_zero h1)
    by_cases h2 : t = []
    · subst h2
      have hv : Venn.atomChk ⟨4, s, [], n⟩ = Venn.nChk 4 n := by simp [Venn.atomChk, h1, Venn.hasT]
      rw [hv]
      clear hv h1
      by_cases hb : n < -20
      · rw [show errV (Venn.nChk 4 n) = .iface 59 (.int .i64 1) from errV_ne (e := 1) (by decide) ▸ by rw [Venn.nChk, if_pos (by omega)]]
        go_enter Tryz.func25, Tryz.ntmps25
        go_wp2_with (go_at_call 49; refine (term_Check _ s _ (hs.keep (by (repeat' (first | (with_reducible exact Below.refl _ _) | (with_reducible assumption) | (with_reducible refine Below.next ?_ (by with_reducible assumption)) | (with_reducible refine Below.drew ?_) | (with_reducible refine Below.laid ?_ _) | (with_reducible refine Below.setCell ?_ ?_ _) | (with_reducible refine size_of ?_) | (with_reducible refine Nat.le_succ_of_le ?_) | go_size))))).mono ?_; rintro e w' ⟨rfl, rfl⟩; rw [hx.out])
        all_goals (first | (exfalso; omega) | (go_ret; exact ⟨rfl, by (repeat' (first | (with_reducible exact Below.refl _ _) | (with_reducible assumption) | (with_reducible refine Below.next ?_ (by with_reducible assumption)) | (with_reducible refine Below.drew ?_) | (with_reducible refine Below.laid ?_ _) | (with_reducible refine Below.setCell ?_ ?_ _) | (with_reducible refine size_of ?_) | (with_reducible refine Nat.le_succ_of_le ?_) | go_size))⟩))
      have hn0 : ¬ n < -20 := hb
      clear hb
      by_cases hb : 20 < n
      · rw [show errV (Venn.nChk 4 n) = .iface 59 (.int .i64 1) from errV_ne (e := 1) (by decide) ▸ by rw [Venn.nChk, if_pos (by omega)]]
        go_enter Tryz.func25, Tryz.ntmps25
        go_wp2_with (go_at_call 49; refine (term_Check _ s _ (hs.keep (by (repeat' (first | (with_reducible exact Below.refl _ _) | (with_reducible assumption) | (with_reducible refine Below.next ?_ (by with_reducible assumption)) | (with_reducible refine Below.drew ?_) | (with_reducible refine Below.laid ?_ _) | (with_reducible refine Below.setCell ?_ ?_ _) | (with_reducible refine size_of ?_) | (with_reducible refine Nat.le_succ_of_le ?_) | go_size))))).mono ?_; rintro e w' ⟨rfl, rfl⟩; rw [hx.out])
        all_goals (first | (exfalso; omega) | (go_ret; exact ⟨rfl, by (repeat' (first | (with_reducible exact Below.refl _ _) | (with_reducible assumption) | (with_reducible refine Below.next ?_ (by with_reducible assumption)) | (with_reducible refine Below.drew ?_) | (with_reducible refine Below.laid ?_ _) | (with_reducible refine Below.setCell ?_ ?_ _) | (with_reducible refine size_of ?_) | (with_reducible refine Nat.le_succ_of_le ?_) | go_size))⟩))
      have hn1 : ¬ 20 < n := hb
      clear hb
      rw [show errV (Venn.nChk 4 n) = .nilIface from errV_zero (by rw [Venn.nChk, if_neg (by omega)])]
      go_enter Tryz.func25, Tryz.ntmps25
      go_wp2_with (go_at_call 49; refine (term_Check _ s _ (hs.keep (by (repeat' (first | (with_reducible exact Below.refl _ _) | (with_reducible assumption) | (with_reducible refine Below.next ?_ (by with_reducible assumption)) | (with_reducible refine Below.drew ?_) | (with_reducible refine Below.laid ?_ _) | (with_reducible refine Below.setCell ?_ ?_ _) | (with_reducible refine size_of ?_) | (with_reducible refine Nat.le_succ_of_le ?_) | go_size))))).mono ?_; rintro e w' ⟨rfl, rfl⟩; rw [hx.out])
      all_goals (first | (exfalso; omega) | (go_ret; exact ⟨rfl, by (repeat' (first | (with_reducible exact Below.refl _ _) | (with_reducible assumption) | (with_reducible refine Below.next ?_ (by with_reducible assumption)) | (with_reducible refine Below.drew ?_) | (with_reducible refine Below.laid ?_ _) | (with_reducible refine Below.setCell ?_ ?_ _) | (with_reducible refine size_of ?_) | (with_reducible refine Nat.le_succ_of_le ?_) | go_size))⟩))
    · have hp : 0 < t.length := by
        rcases t with _ | ⟨x, t⟩
        · exact absurd rfl h2
        · simp
      have hv : Venn.atomChk ⟨4, s, t, n⟩ = 3 := by simp [Venn.atomChk, h1, h2, Venn.hasT]
      rw [hv, show errV 3 = .iface 59 (.int .i64 3) from rfl]
      clear hv h1 h2
      go_enter Tryz.func25, Tryz.ntmps25
      go_wp2_with (go_at_call 49; refine (term_Check _ s _ (hs.keep (by (repeat' (first | (with_reducible exact Below.refl _ _) | (with_reducible assumption) | (with_reducible refine Below.next ?_ (by with_reducible assumption)) | (with_reducible refine Below.drew ?_) | (with_reducible refine Below.laid ?_ _) | (with_reducible refine Below.setCell ?_ ?_ _) | (with_reducible refine size_of ?_) | (with_reducible refine Nat.le_succ_of_le ?_) | go_size))))).mono ?_; rintro e w' ⟨rfl, rfl⟩; rw [hx.out])
      go_ret
      exact ⟨rfl, by (repeat' (first | (with_reducible exact Below.refl _ _) | (with_reducible assumption) | (with_reducible refine Below.next ?_ (by with_reducible assumption)) | (with_reducible refine Below.drew ?_) | (with_reducible refine Below.laid ?_ _) | (with_reducible refine Below.setCell ?_ ?_ _) | (with_reducible refine size_of ?_) | (with_reducible refine Nat.le_succ_of_le ?_) | go_size))⟩
  · have hx := Lib.hid (errV_ne h1)
    have hv : Venn.atomChk ⟨4, s, t, n⟩ = Venn.termChk s := by simp [Venn.atomChk, h1]
    rw [hv, errV_ne h1]
    clear hv h1
    go_enter Tryz.func25, Tryz.ntmps25
    go_wp2_with (go_at_call 49; refine (term_Check _ s _ (hs.keep (by (repeat' (first | (with_reducible exact Below.refl _ _) | (with_reducible assumption) | (with_reducible refine Below.next ?_ (by with_reducible assumption)) | (with_reducible refine Below.drew ?_) | (with_reducible refine Below.laid ?_ _) | (with_reducible refine Below.setCell ?_ ?_ _) | (with_reducible refine size_of ?_) | (with_reducible refine Nat.le_succ_of_le ?_) | go_size))))).mono ?_; rintro e w' ⟨rfl, rfl⟩; rw [hx.out])
    go_ret
    exact ⟨rfl, by (repeat' (first | (with_reducible exact Below.refl _ _) | (with_reducible assumption) | (with_reducible refine Below.next ?_ (by with_reducible assumption)) | (with_reducible refine Below.drew ?_) | (with_reducible refine Below.laid ?_ _) | (with_reducible refine Below.setCell ?_ ?_ _) | (with_reducible refine size_of ?_) | (with_reducible refine Nat.le_succ_of_le ?_) | go_size))⟩

set_option maxHeartbeats 2000000 in
set_option maxRecDepth 100000 in
theorem atom_Check5 (n : Int) (sv tv : Value) (s t : List Int) (w : World) (hs : IsInts w sv s) (ht : IsInts w tv t) (hk : KindsOk w) :
    Calls Tryz.prog 25 #[.agg #[.int .i64 5, sv, tv, .int .i64 n]] w (Keeps (errV (Venn.atomChk ⟨5, s, t, n⟩)) w) := by
  obtain ⟨tA, tc, rfl, htr, htl, htc⟩ := ht
  have HTT : IsInts w (.slice tA t.length tc) t := ⟨tA, tc, rfl, htr, htl, htc⟩
  have k0 : w.cell? ⟨0, 15, none⟩ = some (str [110, 111, 109, 111, 114, 101]) := hk 15 _ rfl
  have k1 : w.cell? ⟨0, 16, none⟩ = some (.bool true) := hk 16 _ rfl
  have k2 : w.cell? ⟨0, 17, none⟩ = some (.bool true) := hk 17 _ rfl
  have hg : 0 < w.heap.size := cell_lt k0
  unfold str at k0
  clear htr htl htc
  by_cases h1 : Venn.termChk s = 0
  · have hx := Lib.hid (errV_zero h1)
    by_cases h2 : Venn.termChk t = 0
    · have hy := Lib.hid (errV_zero h2)
      have hv : Venn.atomChk ⟨5, s, t, n⟩ = Venn.nChk 5 n := by simp [Venn.atomChk, h1, h2, Venn.hasT]
      rw [hv]
      clear hv h1 h2
      by_cases hb : n < -20
      · rw [show errV (Venn.nChk 5 n) = .iface 59 (.int .i64 1) from errV_ne (e := 1) (by decide) ▸ by rw [Venn.nChk, if_pos (by omega)]]
        go_enter Tryz.func25, Tryz.ntmps25
        go_wp2_with (go_at_call 49; refine (term_Check _ _ _ (by first | exact hs.keep (by (repeat' (first | (with_reducible exact Below.refl _ _) | (with_reducible assumption) | (with_reducible refine Below.next ?_ (by with_reducible assumption)) | (with_reducible refine Below.drew ?_) | (with_reducible refine Below.laid ?_ _) | (with_reducible refine Below.setCell ?_ ?_ _) | (with_reducible refine size_of ?_) | (with_reducible refine Nat.le_succ_of_le ?_) | go_size))) | exact HTT.keep (by (repeat' (first | (with_reducible exact Below.refl _ _) | (with_reducible assumption) | (with_reducible refine Below.next ?_ (by with_reducible assumption)) | (with_reducible refine Below.drew ?_) | (with_reducible refine Below.laid ?_ _) | (with_reducible refine Below.setCell ?_ ?_ _) | (with_reducible refine size_of ?_) | (with_reducible refine Nat.le_succ_of_le ?_) | go_size))))).mono ?_; rintro e w' ⟨rfl, rfl⟩; (first | rw [hx.out] | rw [hy.out]))
        all_goals (first | (exfalso; omega) | (go_ret; exact ⟨rfl, by (repeat' (first | (with_reducible exact Below.refl _ _) | (with_reducible assumption) | (with_reducible refine Below.next ?_ (by with_reducible assumption)) | (with_reducible refine Below.drew ?_) | (with_reducible refine Below.laid ?_ _) | (with_reducible refine Below.setCell ?_ ?_ _) | (with_reducible refine size_of ?_) | (with_reducible refine Nat.le_succ_of_le ?_) | go_size))⟩))
      have hn0 : ¬ n < -20 := hb
      clear hb
      by_cases hb : 20 < n
      · rw [show errV (Venn.nChk 5 n) = .iface 59 (.int .i64 1) from errV_ne (e := 1) (by decide) ▸ by rw [Venn.nChk, if_pos (by omega)]]
        go_enter Tryz.func25, Tryz.ntmps25
        go_wp2_with (go_at_call 49; refine (term_Check _ _ _ (by first | exact hs.keep (by (repeat' (first | (with_reducible exact Below.refl _ _) | (with_reducible assumption) | (with_reducible refine Below.next ?_ (by with_reducible assumption)) | (with_reducible refine Below.drew ?_) | (with_reducible refine Below.laid ?_ _) | (with_reducible refine Below.setCell ?_ ?_ _) | (with_reducible refine size_of ?_) | (with_reducible refine Nat.le_succ_of_le ?_) | go_size))) | exact HTT.keep (by (repeat' (first | (with_reducible exact Below.refl _ _) | (with_reducible assumption) | (with_reducible refine Below.next ?_ (by with_reducible assumption)) | (with_reducible refine Below.drew ?_) | (with_reducible refine Below.laid ?_ _) | (with_reducible refine Below.setCell ?_ ?_ _) | (with_reducible refine size_of ?_) | (with_reducible refine Nat.le_succ_of_le ?_) | go_size))))).mono ?_; rintro e w' ⟨rfl, rfl⟩; (first | rw [hx.out] | rw [hy.out]))
        all_goals (first | (exfalso; omega) | (go_ret; exact ⟨rfl, by (repeat' (first | (with_reducible exact Below.refl _ _) | (with_reducible assumption) | (with_reducible refine Below.next ?_ (by with_reducible assumption)) | (with_reducible refine Below.drew ?_) | (with_reducible refine Below.laid ?_ _) | (with_reducible refine Below.setCell ?_ ?_ _) | (with_reducible refine size_of ?_) | (with_reducible refine Nat.le_succ_of_le ?_) | go_size))⟩))
      have hn1 : ¬ 20 < n := hb
      clear hb
      rw [show errV (Venn.nChk 5 n) = .nilIface from errV_zero (by rw [Venn.nChk, if_neg (by omega)])]
      go_enter Tryz.func25, Tryz.ntmps25
      go_wp2_with (go_at_call 49; refine (term_Check _ _ _ (by first | exact hs.keep (by (repeat' (first | (with_reducible exact Below.refl _ _) | (with_reducible assumption) | (with_reducible refine Below.next ?_ (by with_reducible assumption)) | (with_reducible refine Below.drew ?_) | (with_reducible refine Below.laid ?_ _) | (with_reducible refine Below.setCell ?_ ?_ _) | (with_reducible refine size_of ?_) | (with_reducible refine Nat.le_succ_of_le ?_) | go_size))) | exact HTT.keep (by (repeat' (first | (with_reducible exact Below.refl _ _) | (with_reducible assumption) | (with_reducible refine Below.next ?_ (by with_reducible assumption)) | (with_reducible refine Below.drew ?_) | (with_reducible refine Below.laid ?_ _) | (with_reducible refine Below.setCell ?_ ?_ _) | (with_reducible refine size_of ?_) | (with_reducible refine Nat.le_succ_of_le ?_) | go_size))))).mono ?_; rintro e w' ⟨rfl, rfl⟩; (first | rw [hx.out] | rw [hy.out]))
      all_goals (first | (exfalso; omega) | (go_ret; exact ⟨rfl, by (repeat' (first | (with_reducible exact Below.refl _ _) | (with_reducible assumption) | (with_reducible refine Below.next ?_ (by with_reducible assumption)) | (with_reducible refine Below.drew ?_) | (with_reducible refine Below.laid ?_ _) | (with_reducible refine Below.setCell ?_ ?_ _) | (with_reducible refine size_of ?_) | (with_reducible refine Nat.le_succ_of_le ?_) | go_size))⟩))
    · have hy := Lib.hid (errV_ne h2)
      have hv : Venn.atomChk ⟨5, s, t, n⟩ = Venn.termChk t := by simp [Venn.atomChk, h1, h2, Venn.hasT]
      rw [hv, errV_ne h2]
      clear hv h1 h2
      go_enter Tryz.func25, Tryz.ntmps25
      go_wp2_with (go_at_call 49; refine (term_Check _ _ _ (by first | exact hs.keep (by (repeat' (first | (with_reducible exact Below.refl _ _) | (with_reducible assumption) | (with_reducible refine Below.next ?_ (by with_reducible assumption)) | (with_reducible refine Below.drew ?_) | (with_reducible refine Below.laid ?_ _) | (with_reducible refine Below.setCell ?_ ?_ _) | (with_reducible refine size_of ?_) | (with_reducible refine Nat.le_succ_of_le ?_) | go_size))) | exact HTT.keep (by (repeat' (first | (with_reducible exact Below.refl _ _) | (with_reducible assumption) | (with_reducible refine Below.next ?_ (by with_reducible assumption)) | (with_reducible refine Below.drew ?_) | (with_reducible refine Below.laid ?_ _) | (with_reducible refine Below.setCell ?_ ?_ _) | (with_reducible refine size_of ?_) | (with_reducible refine Nat.le_succ_of_le ?_) | go_size))))).mono ?_; rintro e w' ⟨rfl, rfl⟩; (first | rw [hx.out] | rw [hy.out]))
      go_ret
      exact ⟨rfl, by (repeat' (first | (with_reducible exact Below.refl _ _) | (with_reducible assumption) | (with_reducible refine Below.next ?_ (by with_reducible assumption)) | (with_reducible refine Below.drew ?_) | (with_reducible refine Below.laid ?_ _) | (with_reducible refine Below.setCell ?_ ?_ _) | (with_reducible refine size_of ?_) | (with_reducible refine Nat.le_succ_of_le ?_) | go_size))⟩
  · have hx := Lib.hid (errV_ne h1)
    have hv : Venn.atomChk ⟨5, s, t, n⟩ = Venn.termChk s := by simp [Venn.atomChk, h1]
    rw [hv, errV_ne h1]
    clear hv h1
    go_enter Tryz.func25, Tryz.ntmps25
    go_wp2_with (go_at_call 49; refine (term_Check _ s _ (hs.keep (by (repeat' (first | (with_reducible exact Below.refl _ _) | (with_reducible assumption) | (with_reducible refine Below.next ?_ (by with_reducible assumption)) | (with_reducible refine Below.drew ?_) | (with_reducible refine Below.laid ?_ _) | (with_reducible refine Below.setCell ?_ ?_ _) | (with_reducible refine size_of ?_) | (with_reducible refine Nat.le_succ_of_le ?_) | go_size))))).mono ?_; rintro e w' ⟨rfl, rfl⟩; rw [hx.out])
    go_ret
    exact ⟨rfl, by (repeat' (first | (with_reducible exact Below.refl _ _) | (with_reducible assumption) | (with_reducible refine Below.next ?_ (by with_reducible assumption)) | (with_reducible refine Below.drew ?_) | (with_reducible refine Below.laid ?_ _) | (with_reducible refine Below.setCell ?_ ?_ _) | (with_reducible refine size_of ?_) | (with_reducible refine Nat.le_succ_of_le ?_) | go_size))⟩

set_option maxHeartbeats 1000000 in
theorem atom_Check (what n : Int) (sv tv : Value) (s t : List Int) (w : World) (hs : IsInts w sv s) (ht : IsInts w tv t) (hk : KindsOk w) :
    Calls Tryz.prog 25 #[.agg #[.int .i64 what, sv, tv, .int .i64 n]] w (Keeps (errV (Venn.atomChk ⟨what, s, t, n⟩)) w) := by
  by_cases h1 : what < 1
  · rw [show errV (Venn.atomChk ⟨what, s, t, n⟩) = .iface 59 (.int .i64 1) by rw [Venn.atomChk, if_pos (Or.inl h1)]; rfl]
    go_enter Tryz.func25, Tryz.ntmps25
    go_wp2
    all_goals (first | (exfalso; omega) | (go_ret; exact ⟨rfl, by (repeat' (first | (with_reducible exact Below.refl _ _) | (with_reducible assumption) | (with_reducible refine Below.next ?_ (by with_reducible assumption)) | (with_reducible refine Below.drew ?_) | (with_reducible refine Below.laid ?_ _) | (with_reducible refine Below.setCell ?_ ?_ _) | (with_reducible refine size_of ?_) | (with_reducible refine Nat.le_succ_of_le ?_) | go_size))⟩))
  by_cases h5 : 5 < what
  · rw [show errV (Venn.atomChk ⟨what, s, t, n⟩) = .iface 59 (.int .i64 1) by rw [Venn.atomChk, if_pos (Or.inr h5)]; rfl]
    go_enter Tryz.func25, Tryz.ntmps25
    go_wp2
    all_goals (first | (exfalso; omega) | (go_ret; exact ⟨rfl, by (repeat' (first | (with_reducible exact Below.refl _ _) | (with_reducible assumption) | (with_reducible refine Below.next ?_ (by with_reducible assumption)) | (with_reducible refine Below.drew ?_) | (with_reducible refine Below.laid ?_ _) | (with_reducible refine Below.setCell ?_ ?_ _) | (with_reducible refine size_of ?_) | (with_reducible refine Nat.le_succ_of_le ?_) | go_size))⟩))
  rcases (by omega : what = 1 ∨ what = 2 ∨ what = 3 ∨ what = 4 ∨ what = 5) with rfl | rfl | rfl | rfl | rfl
  · exact atom_Check1 n sv tv s t w hs ht hk
  · exact atom_Check2 n sv tv s t w hs ht hk
  · exact atom_Check3 n sv tv s t w hs ht hk
  · exact atom_Check4 n sv tv s t w hs ht hk
  · exact atom_Check5 n sv tv s t w hs ht hk

end Go.Proofs.YtjnjgcibhjdmdaaGreatDoor

namespace Go.Proofs.YtjnjgcibhjdmdaaGreatDoor
open Go.RowKit

theorem wrap_of {x : Int} (h0 : -9223372036854775808 ≤ x) (h1 : x ≤ 9223372036854775807) : IntKind.i64.wrap x = x := by
  rw [IntKind.wrap_i64]
  omega
theorem Blk.cells4 {w : World} {g : Nat} {t : TypeId} {x0 x1 x2 x3 : Value} (h : Blk w g t #[x0, x1, x2, x3]) :
    w.cell? ⟨g, 0, none⟩ = some x0 ∧ w.cell? ⟨g, 1, none⟩ = some x1 ∧ w.cell? ⟨g, 2, none⟩ = some x2 ∧ w.cell? ⟨g, 3, none⟩ = some x3 := ⟨h.cell 0, h.cell 1, h.cell 2, h.cell 3⟩
/-- Two boxes of four cells, below a call. -/
theorem boxes44 {w w1 : World} {tA tB : TypeId} {x0 x1 x2 x3 y0 y1 y2 y3 : Value}
    (hb : Below ((w.alloc (.cells #[x0, x1, x2, x3] tA)).alloc (.cells #[y0, y1, y2, y3] tB)).heap.size ((w.alloc (.cells #[x0, x1, x2, x3] tA)).alloc (.cells #[y0, y1, y2, y3] tB)) w1) :
    Blk w1 w.heap.size tA #[x0, x1, x2, x3] ∧ Blk w1 (w.heap.size + 1) tB #[y0, y1, y2, y3] :=
  ⟨((Blk.new w _ _).alloc _).keep hb, (Blk.newAt (by simp) _ _).keep hb⟩

set_option maxHeartbeats 4000000 in
set_option maxRecDepth 100000 in
theorem atom_True2 (what n : Int) (sv tv : Value) (s t : List Int) (th a b c : Int) (w : World) (hs : IsInts w sv s) (ht : IsInts w tv t) (hk : KindsOk w)
    (h1 : what = 1 ∨ what = 2) (hcs : Venn.termChk s = 0) (hct : Venn.termChk t = 0) (hw : Venn.worldChk ⟨th, a, b, c⟩ = 0) :
    Calls Tryz.prog 70 #[.agg #[.int .i64 what, sv, tv, .int .i64 n], .agg #[.int .i64 th, .int .i64 a, .int .i64 b, .int .i64 c]] w
      (Keeps (.bool (Venn.atomTrue ⟨what, s, t, n⟩ ⟨th, a, b, c⟩)) w) := by
  have hS := setChk_63 (Venn.termSet_right hw s)
  have hT := setChk_63 (Venn.termSet_right hw t)
  have HW := Lib.hid hw; have HCS := Lib.hid hcs; have HCT := Lib.hid hct
  clear hcs hct hw
  have HBK := Lib.hid (bits_andNot_64 hS hT)
  have HK := Lib.hid hk
  have hg : 0 < w.heap.size := cell_lt (hk 0 _ rfl)
  clear hk
  rcases h1 with rfl | rfl
  all_goals
    go_enter Tryz.func70, Tryz.ntmps70
    go_wp2_with fail
    refine (term_Set _ s _ _ _ _ _ (hs.keep (by (repeat' (first | (with_reducible exact Below.refl _ _) | (with_reducible assumption) | (with_reducible refine Below.next ?_ (by with_reducible assumption)) | (with_reducible refine Below.drew ?_) | (with_reducible refine Below.laid ?_ _) | (with_reducible refine Below.setCell ?_ ?_ _) | (with_reducible refine size_of ?_) | (with_reducible refine Nat.le_succ_of_le ?_) | go_size)))) HCS.out HW.out).mono ?_
    rintro e w1 ⟨rfl, hb1⟩
    obtain ⟨BA, BW⟩ := boxes44 hb1
    obtain ⟨a0, a1, a2, a3⟩ := BA.cells4
    obtain ⟨b0, b1, b2, b3⟩ := BW.cells4
    have hK := HK.out.keep (w' := w1) (by (repeat' (first | (with_reducible exact Below.refl _ _) | (with_reducible assumption) | (with_reducible refine Below.next ?_ (by with_reducible assumption)) | (with_reducible refine Below.drew ?_) | (with_reducible refine Below.laid ?_ _) | (with_reducible refine Below.setCell ?_ ?_ _) | (with_reducible refine size_of ?_) | (with_reducible refine Nat.le_succ_of_le ?_) | go_size)))
    have k4 : w1.cell? ⟨0, 4, none⟩ = some (.bool true) := hK 4 _ rfl
    have k7 : w1.cell? ⟨0, 7, none⟩ = some (.bool true) := hK 7 _ rfl
    go_wp2_with fail
    refine (term_Set _ t _ _ _ _ _ (ht.keep (by (repeat' (first | (with_reducible exact Below.refl _ _) | (with_reducible assumption) | (with_reducible refine Below.next ?_ (by with_reducible assumption)) | (with_reducible refine Below.drew ?_) | (with_reducible refine Below.laid ?_ _) | (with_reducible refine Below.setCell ?_ ?_ _) | (with_reducible refine size_of ?_) | (with_reducible refine Nat.le_succ_of_le ?_) | go_size)))) HCT.out HW.out).mono ?_
    rintro e w2 ⟨rfl, hb2⟩
    have BA2 := BA.keep hb2
    obtain ⟨c0, c1, c2, c3⟩ := BA2.cells4
    go_wp2
    go_ret
    refine ⟨ret_bool ?_, by (repeat' (first | (with_reducible exact Below.refl _ _) | (with_reducible assumption) | (with_reducible refine Below.next ?_ (by with_reducible assumption)) | (with_reducible refine Below.drew ?_) | (with_reducible refine Below.laid ?_ _) | (with_reducible refine Below.setCell ?_ ?_ _) | (with_reducible refine size_of ?_) | (with_reducible refine Nat.le_succ_of_le ?_) | go_size))⟩
    simp [Venn.atomTrue, HBK.out]

set_option maxHeartbeats 4000000 in
set_option maxRecDepth 100000 in
theorem atom_True3 (what n : Int) (sv tv : Value) (s t : List Int) (th a b c : Int) (w : World) (hs : IsInts w sv s) (hk : KindsOk w)
    (h1 : what = 3 ∨ what = 4) (hcs : Venn.termChk s = 0) (hw : Venn.worldChk ⟨th, a, b, c⟩ = 0) :
    Calls Tryz.prog 70 #[.agg #[.int .i64 what, sv, tv, .int .i64 n], .agg #[.int .i64 th, .int .i64 a, .int .i64 b, .int .i64 c]] w
      (Keeps (.bool (Venn.atomTrue ⟨what, s, t, n⟩ ⟨th, a, b, c⟩)) w) := by
  have hS := setChk_63 (Venn.termSet_right hw s)
  have HW := Lib.hid hw; have HCS := Lib.hid hcs
  clear hcs hw
  have HK := Lib.hid hk
  have hg : 0 < w.heap.size := cell_lt (hk 0 _ rfl)
  clear hk
  rcases h1 with rfl | rfl
  all_goals
    go_enter Tryz.func70, Tryz.ntmps70
    go_wp2_with fail
    refine (term_Set _ s _ _ _ _ _ (hs.keep (by (repeat' (first | (with_reducible exact Below.refl _ _) | (with_reducible assumption) | (with_reducible refine Below.next ?_ (by with_reducible assumption)) | (with_reducible refine Below.drew ?_) | (with_reducible refine Below.laid ?_ _) | (with_reducible refine Below.setCell ?_ ?_ _) | (with_reducible refine size_of ?_) | (with_reducible refine Nat.le_succ_of_le ?_) | go_size)))) HCS.out HW.out).mono ?_
    rintro e w1 ⟨rfl, hb1⟩
    obtain ⟨BA, BW⟩ := boxes44 hb1
    obtain ⟨a0, a1, a2, a3⟩ := BA.cells4
    have hK := HK.out.keep (w' := w1) (by (repeat' (first | (with_reducible exact Below.refl _ _) | (with_reducible assumption) | (with_reducible refine Below.next ?_ (by with_reducible assumption)) | (with_reducible refine Below.drew ?_) | (with_reducible refine Below.laid ?_ _) | (with_reducible refine Below.setCell ?_ ?_ _) | (with_reducible refine size_of ?_) | (with_reducible refine Nat.le_succ_of_le ?_) | go_size)))
    have k4 : w1.cell? ⟨0, 10, none⟩ = some (.bool false) := hK 10 _ rfl
    have k7 : w1.cell? ⟨0, 13, none⟩ = some (.bool false) := hK 13 _ rfl
    go_wp2_with fail
    go_quiet ((go_at_call 99; refine Calls.quiet_of_same (Pure.still (sets_Many _ _ hS))))
    go_wp2
    go_ret
    refine ⟨ret_bool ?_, below_drewN (by (repeat' (first | (with_reducible exact Below.refl _ _) | (with_reducible assumption) | (with_reducible refine Below.next ?_ (by with_reducible assumption)) | (with_reducible refine Below.drew ?_) | (with_reducible refine Below.laid ?_ _) | (with_reducible refine Below.setCell ?_ ?_ _) | (with_reducible refine size_of ?_) | (with_reducible refine Nat.le_succ_of_le ?_) | go_size))) _⟩
    simp [Venn.atomTrue]

set_option maxHeartbeats 4000000 in
set_option maxRecDepth 100000 in
theorem atom_True5 (n : Int) (sv tv : Value) (s t : List Int) (th a b c : Int) (w : World) (hs : IsInts w sv s) (ht : IsInts w tv t) (hk : KindsOk w)
    (hn : -20 ≤ n ∧ n ≤ 20) (hcs : Venn.termChk s = 0) (hct : Venn.termChk t = 0) (hw : Venn.worldChk ⟨th, a, b, c⟩ = 0) :
    Calls Tryz.prog 70 #[.agg #[.int .i64 5, sv, tv, .int .i64 n], .agg #[.int .i64 th, .int .i64 a, .int .i64 b, .int .i64 c]] w
      (Keeps (.bool (Venn.atomTrue ⟨5, s, t, n⟩ ⟨th, a, b, c⟩)) w) := by
  have hS := setChk_63 (Venn.termSet_right hw s)
  have hT := setChk_63 (Venn.termSet_right hw t)
  have hm := Venn.many_le (Venn.termSet t ⟨th, a, b, c⟩)
  have HW := Lib.hid hw; have HCS := Lib.hid hcs; have HCT := Lib.hid hct
  clear hcs hct hw
  have HK := Lib.hid hk
  have hg : 0 < w.heap.size := cell_lt (hk 0 _ rfl)
  clear hk
  go_enter Tryz.func70, Tryz.ntmps70
  go_wp2_with fail
  refine (term_Set _ s _ _ _ _ _ (hs.keep (by (repeat' (first | (with_reducible exact Below.refl _ _) | (with_reducible assumption) | (with_reducible refine Below.next ?_ (by with_reducible assumption)) | (with_reducible refine Below.drew ?_) | (with_reducible refine Below.laid ?_ _) | (with_reducible refine Below.setCell ?_ ?_ _) | (with_reducible refine size_of ?_) | (with_reducible refine Nat.le_succ_of_le ?_) | go_size)))) HCS.out HW.out).mono ?_
  rintro e w1 ⟨rfl, hb1⟩
  obtain ⟨BA, BW⟩ := boxes44 hb1
  obtain ⟨a0, a1, a2, a3⟩ := BA.cells4
  obtain ⟨b0, b1, b2, b3⟩ := BW.cells4
  have hK := HK.out.keep (w' := w1) (by (repeat' (first | (with_reducible exact Below.refl _ _) | (with_reducible assumption) | (with_reducible refine Below.next ?_ (by with_reducible assumption)) | (with_reducible refine Below.drew ?_) | (with_reducible refine Below.laid ?_ _) | (with_reducible refine Below.setCell ?_ ?_ _) | (with_reducible refine size_of ?_) | (with_reducible refine Nat.le_succ_of_le ?_) | go_size)))
  have k4 : w1.cell? ⟨0, 16, none⟩ = some (.bool true) := hK 16 _ rfl
  go_wp2_with fail
  refine (term_Set _ t _ _ _ _ _ (ht.keep (by (repeat' (first | (with_reducible exact Below.refl _ _) | (with_reducible assumption) | (with_reducible refine Below.next ?_ (by with_reducible assumption)) | (with_reducible refine Below.drew ?_) | (with_reducible refine Below.laid ?_ _) | (with_reducible refine Below.setCell ?_ ?_ _) | (with_reducible refine size_of ?_) | (with_reducible refine Nat.le_succ_of_le ?_) | go_size)))) HCT.out HW.out).mono ?_
  rintro e w2 ⟨rfl, hb2⟩
  have BA2 := BA.keep hb2
  obtain ⟨c0, c1, c2, c3⟩ := BA2.cells4
  have hwr : IntKind.i64.wrap (Venn.many (Venn.termSet t ⟨th, a, b, c⟩) + n) = Venn.many (Venn.termSet t ⟨th, a, b, c⟩) + n := wrap_of (by omega) (by omega)
  go_wp2_with fail
  go_quiet ((go_at_call 99; refine Calls.quiet_of_same (Pure.still (sets_Many _ _ (by assumption)))))
  go_wp2
  go_ret
  refine ⟨ret_bool ?_, below_drewN (by (repeat' (first | (with_reducible exact Below.refl _ _) | (with_reducible assumption) | (with_reducible refine Below.next ?_ (by with_reducible assumption)) | (with_reducible refine Below.drew ?_) | (with_reducible refine Below.laid ?_ _) | (with_reducible refine Below.setCell ?_ ?_ _) | (with_reducible refine size_of ?_) | (with_reducible refine Nat.le_succ_of_le ?_) | go_size))) _⟩
  simp [Venn.atomTrue]

/-- True, whatever the atom says. -/
theorem atom_True (what n : Int) (sv tv : Value) (s t : List Int) (th a b c : Int) (w : World) (hs : IsInts w sv s) (ht : IsInts w tv t) (hk : KindsOk w)
    (hc : Venn.atomChk ⟨what, s, t, n⟩ = 0) (hw : Venn.worldChk ⟨th, a, b, c⟩ = 0) :
    Calls Tryz.prog 70 #[.agg #[.int .i64 what, sv, tv, .int .i64 n], .agg #[.int .i64 th, .int .i64 a, .int .i64 b, .int .i64 c]] w
      (Keeps (.bool (Venn.atomTrue ⟨what, s, t, n⟩ ⟨th, a, b, c⟩)) w) := by
  obtain ⟨h1, h5, h2, h3, h4, h6, h7, _⟩ := Venn.atomChk_parts hc
  simp only at h1 h5 h2 h3 h4 h6 h7
  rcases (by omega : what = 1 ∨ what = 2 ∨ what = 3 ∨ what = 4 ∨ what = 5) with rfl | rfl | rfl | rfl | rfl
  · exact atom_True2 1 n sv tv s t th a b c w hs ht hk (Or.inl rfl) h2 (h3 rfl) hw
  · exact atom_True2 2 n sv tv s t th a b c w hs ht hk (Or.inr rfl) h2 (h3 rfl) hw
  · exact atom_True3 3 n sv tv s t th a b c w hs hk (Or.inl rfl) h2 hw
  · exact atom_True3 4 n sv tv s t th a b c w hs hk (Or.inr rfl) h2 hw
  · exact atom_True5 n sv tv s t th a b c w hs ht hk ⟨h6, h7⟩ h2 (h3 rfl) hw

end Go.Proofs.YtjnjgcibhjdmdaaGreatDoor
