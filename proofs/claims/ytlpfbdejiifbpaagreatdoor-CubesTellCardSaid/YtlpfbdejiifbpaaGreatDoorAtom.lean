/-
  THE WALKS of package atom: Check, True, Holds.
-/
import Derived.Test.YtlpfbdejiifbpaaGreatDoorMem
import Derived.Test.YtlpfbdejiifbpaaGreatDoorSetsT
import Derived.Test.YtlpfbdejiifbpaaGreatDoorVennP1
import Derived.Deep.QuietTactic
import Derived.BigQuiet
namespace Go.Proofs.YtlpfbdejiifbpaaGreatDoor
open Go.RowKit

/-- An atom as a value. -/
def atomV (sv tv : Value) (a : Venn.Atom) : Value := .agg #[.int .i64 a.what, sv, tv, .int .i64 a.n]

set_option maxHeartbeats 2000000 in
set_option maxRecDepth 100000 in
theorem atom_Check1 (n : Int) (sv tv : Value) (s t : List Int) (w : World) (hs : IsInts w sv s) (ht : IsInts w tv t) (hk : KindsOk w) :
    Calls Tryz.prog 60 #[.agg #[.int .i64 1, sv, tv, .int .i64 n]] w (Keeps (errV (Venn.atomChk ⟨1, s, t, n⟩)) w) := by
  obtain ⟨tA, tc, rfl, htr, htl, htc⟩ := ht
  have HTT : IsInts w (.slice tA t.length tc) t := ⟨tA, tc, rfl, htr, htl, htc⟩
  have k0 : w.cell? ⟨0, 3, none⟩ = some (str [115, 117, 98]) := hk 3 _ rfl
  have k1 : w.cell? ⟨0, 4, none⟩ = some (.bool true) := hk 4 _ rfl
  have k2 : w.cell? ⟨0, 5, none⟩ = some (.bool false) := hk 5 _ rfl
  have hg : 0 < w.heap.size := cell_lt k0
  unfold str at k0
  clear htr htl htc
  by_cases h1 : Venn.termChk s = 0
  · have hx := Lib.hid (errV_zero h1)
    by_cases h2 : Venn.termChk t = 0
    · have hy := Lib.hid (errV_zero h2)
      have hv : Venn.atomChk ⟨1, s, t, n⟩ = Venn.nChk 1 n := by simp [Venn.atomChk, h1, h2, Venn.hasT]
      rw [hv]
      clear hv h1 h2
      by_cases hb : n < -20
      · rw [show errV (Venn.nChk 1 n) = .iface 73 (.int .i64 1) from errV_ne (e := 1) (by decide) ▸ by rw [Venn.nChk, if_pos (by omega)]]
        go_enter Tryz.func60, Tryz.ntmps60
        go_wp2_with (go_at_call 84; refine (term_Check _ _ _ (by first | exact hs.keep (by (repeat' (first | (with_reducible exact Below.refl _ _) | (with_reducible assumption) | (with_reducible refine Below.next ?_ (by with_reducible assumption)) | (with_reducible refine Below.drew ?_) | (with_reducible refine Below.laid ?_ _) | (with_reducible refine Below.setCell ?_ ?_ _) | (with_reducible refine size_of ?_) | (with_reducible refine Nat.le_succ_of_le ?_) | go_size))) | exact HTT.keep (by (repeat' (first | (with_reducible exact Below.refl _ _) | (with_reducible assumption) | (with_reducible refine Below.next ?_ (by with_reducible assumption)) | (with_reducible refine Below.drew ?_) | (with_reducible refine Below.laid ?_ _) | (with_reducible refine Below.setCell ?_ ?_ _) | (with_reducible refine size_of ?_) | (with_reducible refine Nat.le_succ_of_le ?_) | go_size))))).mono ?_; rintro e w' ⟨rfl, rfl⟩; (first | rw [hx.out] | rw [hy.out]))
        all_goals (first | (exfalso; omega) | (go_ret; exact ⟨rfl, by (repeat' (first | (with_reducible exact Below.refl _ _) | (with_reducible assumption) | (with_reducible refine Below.next ?_ (by with_reducible assumption)) | (with_reducible refine Below.drew ?_) | (with_reducible refine Below.laid ?_ _) | (with_reducible refine Below.setCell ?_ ?_ _) | (with_reducible refine size_of ?_) | (with_reducible refine Nat.le_succ_of_le ?_) | go_size))⟩))
      have hn0 : ¬ n < -20 := hb
      clear hb
      by_cases hb : 20 < n
      · rw [show errV (Venn.nChk 1 n) = .iface 73 (.int .i64 1) from errV_ne (e := 1) (by decide) ▸ by rw [Venn.nChk, if_pos (by omega)]]
        go_enter Tryz.func60, Tryz.ntmps60
        go_wp2_with (go_at_call 84; refine (term_Check _ _ _ (by first | exact hs.keep (by (repeat' (first | (with_reducible exact Below.refl _ _) | (with_reducible assumption) | (with_reducible refine Below.next ?_ (by with_reducible assumption)) | (with_reducible refine Below.drew ?_) | (with_reducible refine Below.laid ?_ _) | (with_reducible refine Below.setCell ?_ ?_ _) | (with_reducible refine size_of ?_) | (with_reducible refine Nat.le_succ_of_le ?_) | go_size))) | exact HTT.keep (by (repeat' (first | (with_reducible exact Below.refl _ _) | (with_reducible assumption) | (with_reducible refine Below.next ?_ (by with_reducible assumption)) | (with_reducible refine Below.drew ?_) | (with_reducible refine Below.laid ?_ _) | (with_reducible refine Below.setCell ?_ ?_ _) | (with_reducible refine size_of ?_) | (with_reducible refine Nat.le_succ_of_le ?_) | go_size))))).mono ?_; rintro e w' ⟨rfl, rfl⟩; (first | rw [hx.out] | rw [hy.out]))
        all_goals (first | (exfalso; omega) | (go_ret; exact ⟨rfl, by (repeat' (first | (with_reducible exact Below.refl _ _) | (with_reducible assumption) | (with_reducible refine Below.next ?_ (by with_reducible assumption)) | (with_reducible refine Below.drew ?_) | (with_reducible refine Below.laid ?_ _) | (with_reducible refine Below.setCell ?_ ?_ _) | (with_reducible refine size_of ?_) | (with_reducible refine Nat.le_succ_of_le ?_) | go_size))⟩))
      have hn1 : ¬ 20 < n := hb
      clear hb
      by_cases hb : n ≠ 0
      · rw [show errV (Venn.nChk 1 n) = .iface 73 (.int .i64 1) from errV_ne (e := 1) (by decide) ▸ by rw [Venn.nChk, if_pos (by omega)]]
        have hnz : (n != 0) = true := by simpa using hb
        go_enter Tryz.func60, Tryz.ntmps60
        go_wp2_with (go_at_call 84; refine (term_Check _ _ _ (by first | exact hs.keep (by (repeat' (first | (with_reducible exact Below.refl _ _) | (with_reducible assumption) | (with_reducible refine Below.next ?_ (by with_reducible assumption)) | (with_reducible refine Below.drew ?_) | (with_reducible refine Below.laid ?_ _) | (with_reducible refine Below.setCell ?_ ?_ _) | (with_reducible refine size_of ?_) | (with_reducible refine Nat.le_succ_of_le ?_) | go_size))) | exact HTT.keep (by (repeat' (first | (with_reducible exact Below.refl _ _) | (with_reducible assumption) | (with_reducible refine Below.next ?_ (by with_reducible assumption)) | (with_reducible refine Below.drew ?_) | (with_reducible refine Below.laid ?_ _) | (with_reducible refine Below.setCell ?_ ?_ _) | (with_reducible refine size_of ?_) | (with_reducible refine Nat.le_succ_of_le ?_) | go_size))))).mono ?_; rintro e w' ⟨rfl, rfl⟩; (first | rw [hx.out] | rw [hy.out]))
        all_goals (first | (exfalso; omega) | (go_ret; exact ⟨rfl, by (repeat' (first | (with_reducible exact Below.refl _ _) | (with_reducible assumption) | (with_reducible refine Below.next ?_ (by with_reducible assumption)) | (with_reducible refine Below.drew ?_) | (with_reducible refine Below.laid ?_ _) | (with_reducible refine Below.setCell ?_ ?_ _) | (with_reducible refine size_of ?_) | (with_reducible refine Nat.le_succ_of_le ?_) | go_size))⟩))
      have hnz : (n != 0) = false := by simpa using hb
      obtain rfl : n = 0 := by omega
      clear hb
      rw [show errV (Venn.nChk 1 0) = .nilIface from errV_zero (by rw [Venn.nChk, if_neg (by omega)])]
      go_enter Tryz.func60, Tryz.ntmps60
      go_wp2_with (go_at_call 84; refine (term_Check _ _ _ (by first | exact hs.keep (by (repeat' (first | (with_reducible exact Below.refl _ _) | (with_reducible assumption) | (with_reducible refine Below.next ?_ (by with_reducible assumption)) | (with_reducible refine Below.drew ?_) | (with_reducible refine Below.laid ?_ _) | (with_reducible refine Below.setCell ?_ ?_ _) | (with_reducible refine size_of ?_) | (with_reducible refine Nat.le_succ_of_le ?_) | go_size))) | exact HTT.keep (by (repeat' (first | (with_reducible exact Below.refl _ _) | (with_reducible assumption) | (with_reducible refine Below.next ?_ (by with_reducible assumption)) | (with_reducible refine Below.drew ?_) | (with_reducible refine Below.laid ?_ _) | (with_reducible refine Below.setCell ?_ ?_ _) | (with_reducible refine size_of ?_) | (with_reducible refine Nat.le_succ_of_le ?_) | go_size))))).mono ?_; rintro e w' ⟨rfl, rfl⟩; (first | rw [hx.out] | rw [hy.out]))
      all_goals (first | (exfalso; omega) | (go_ret; exact ⟨rfl, by (repeat' (first | (with_reducible exact Below.refl _ _) | (with_reducible assumption) | (with_reducible refine Below.next ?_ (by with_reducible assumption)) | (with_reducible refine Below.drew ?_) | (with_reducible refine Below.laid ?_ _) | (with_reducible refine Below.setCell ?_ ?_ _) | (with_reducible refine size_of ?_) | (with_reducible refine Nat.le_succ_of_le ?_) | go_size))⟩))
    · have hy := Lib.hid (errV_ne h2)
      have hv : Venn.atomChk ⟨1, s, t, n⟩ = Venn.termChk t := by simp [Venn.atomChk, h1, h2, Venn.hasT]
      rw [hv, errV_ne h2]
      clear hv h1 h2
      go_enter Tryz.func60, Tryz.ntmps60
      go_wp2_with (go_at_call 84; refine (term_Check _ _ _ (by first | exact hs.keep (by (repeat' (first | (with_reducible exact Below.refl _ _) | (with_reducible assumption) | (with_reducible refine Below.next ?_ (by with_reducible assumption)) | (with_reducible refine Below.drew ?_) | (with_reducible refine Below.laid ?_ _) | (with_reducible refine Below.setCell ?_ ?_ _) | (with_reducible refine size_of ?_) | (with_reducible refine Nat.le_succ_of_le ?_) | go_size))) | exact HTT.keep (by (repeat' (first | (with_reducible exact Below.refl _ _) | (with_reducible assumption) | (with_reducible refine Below.next ?_ (by with_reducible assumption)) | (with_reducible refine Below.drew ?_) | (with_reducible refine Below.laid ?_ _) | (with_reducible refine Below.setCell ?_ ?_ _) | (with_reducible refine size_of ?_) | (with_reducible refine Nat.le_succ_of_le ?_) | go_size))))).mono ?_; rintro e w' ⟨rfl, rfl⟩; (first | rw [hx.out] | rw [hy.out]))
      go_ret
      exact ⟨rfl, by (repeat' (first | (with_reducible exact Below.refl _ _) | (with_reducible assumption) | (with_reducible refine Below.next ?_ (by with_reducible assumption)) | (with_reducible refine Below.drew ?_) | (with_reducible refine Below.laid ?_ _) | (with_reducible refine Below.setCell ?_ ?_ _) | (with_reducible refine size_of ?_) | (with_reducible refine Nat.le_succ_of_le ?_) | go_size))⟩
  · have hx := Lib.hid (errV_ne h1)
    have hv : Venn.atomChk ⟨1, s, t, n⟩ = Venn.termChk s := by simp [Venn.atomChk, h1]
    rw [hv, errV_ne h1]
    clear hv h1
    go_enter Tryz.func60, Tryz.ntmps60
    go_wp2_with (go_at_call 84; refine (term_Check _ s _ (hs.keep (by (repeat' (first | (with_reducible exact Below.refl _ _) | (with_reducible assumption) | (with_reducible refine Below.next ?_ (by with_reducible assumption)) | (with_reducible refine Below.drew ?_) | (with_reducible refine Below.laid ?_ _) | (with_reducible refine Below.setCell ?_ ?_ _) | (with_reducible refine size_of ?_) | (with_reducible refine Nat.le_succ_of_le ?_) | go_size))))).mono ?_; rintro e w' ⟨rfl, rfl⟩; rw [hx.out])
    go_ret
    exact ⟨rfl, by (repeat' (first | (with_reducible exact Below.refl _ _) | (with_reducible assumption) | (with_reducible refine Below.next ?_ (by with_reducible assumption)) | (with_reducible refine Below.drew ?_) | (with_reducible refine Below.laid ?_ _) | (with_reducible refine Below.setCell ?_ ?_ _) | (with_reducible refine size_of ?_) | (with_reducible refine Nat.le_succ_of_le ?_) | go_size))⟩

set_option maxHeartbeats 2000000 in
set_option maxRecDepth 100000 in
theorem atom_Check2 (n : Int) (sv tv : Value) (s t : List Int) (w : World) (hs : IsInts w sv s) (ht : IsInts w tv t) (hk : KindsOk w) :
    Calls Tryz.prog 60 #[.agg #[.int .i64 2, sv, tv, .int .i64 n]] w (Keeps (errV (Venn.atomChk ⟨2, s, t, n⟩)) w) := by
  obtain ⟨tA, tc, rfl, htr, htl, htc⟩ := ht
  have HTT : IsInts w (.slice tA t.length tc) t := ⟨tA, tc, rfl, htr, htl, htc⟩
  have k0 : w.cell? ⟨0, 6, none⟩ = some (str [115, 97, 109, 101]) := hk 6 _ rfl
  have k1 : w.cell? ⟨0, 7, none⟩ = some (.bool true) := hk 7 _ rfl
  have k2 : w.cell? ⟨0, 8, none⟩ = some (.bool false) := hk 8 _ rfl
  have hg : 0 < w.heap.size := cell_lt k0
  unfold str at k0
  clear htr htl htc
  by_cases h1 : Venn.termChk s = 0
  · have hx := Lib.hid (errV_zero h1)
    by_cases h2 : Venn.termChk t = 0
    · have hy := Lib.hid (errV_zero h2)
      have hv : Venn.atomChk ⟨2, s, t, n⟩ = Venn.nChk 2 n := by simp [Venn.atomChk, h1, h2, Venn.hasT]
      rw [hv]
      clear hv h1 h2
      by_cases hb : n < -20
      · rw [show errV (Venn.nChk 2 n) = .iface 73 (.int .i64 1) from errV_ne (e := 1) (by decide) ▸ by rw [Venn.nChk, if_pos (by omega)]]
        go_enter Tryz.func60, Tryz.ntmps60
        go_wp2_with (go_at_call 84; refine (term_Check _ _ _ (by first | exact hs.keep (by (repeat' (first | (with_reducible exact Below.refl _ _) | (with_reducible assumption) | (with_reducible refine Below.next ?_ (by with_reducible assumption)) | (with_reducible refine Below.drew ?_) | (with_reducible refine Below.laid ?_ _) | (with_reducible refine Below.setCell ?_ ?_ _) | (with_reducible refine size_of ?_) | (with_reducible refine Nat.le_succ_of_le ?_) | go_size))) | exact HTT.keep (by (repeat' (first | (with_reducible exact Below.refl _ _) | (with_reducible assumption) | (with_reducible refine Below.next ?_ (by with_reducible assumption)) | (with_reducible refine Below.drew ?_) | (with_reducible refine Below.laid ?_ _) | (with_reducible refine Below.setCell ?_ ?_ _) | (with_reducible refine size_of ?_) | (with_reducible refine Nat.le_succ_of_le ?_) | go_size))))).mono ?_; rintro e w' ⟨rfl, rfl⟩; (first | rw [hx.out] | rw [hy.out]))
        all_goals (first | (exfalso; omega) | (go_ret; exact ⟨rfl, by (repeat' (first | (with_reducible exact Below.refl _ _) | (with_reducible assumption) | (with_reducible refine Below.next ?_ (by with_reducible assumption)) | (with_reducible refine Below.drew ?_) | (with_reducible refine Below.laid ?_ _) | (with_reducible refine Below.setCell ?_ ?_ _) | (with_reducible refine size_of ?_) | (with_reducible refine Nat.le_succ_of_le ?_) | go_size))⟩))
      have hn0 : ¬ n < -20 := hb
      clear hb
      by_cases hb : 20 < n
      · rw [show errV (Venn.nChk 2 n) = .iface 73 (.int .i64 1) from errV_ne (e := 1) (by decide) ▸ by rw [Venn.nChk, if_pos (by omega)]]
        go_enter Tryz.func60, Tryz.ntmps60
        go_wp2_with (go_at_call 84; refine (term_Check _ _ _ (by first | exact hs.keep (by (repeat' (first | (with_reducible exact Below.refl _ _) | (with_reducible assumption) | (with_reducible refine Below.next ?_ (by with_reducible assumption)) | (with_reducible refine Below.drew ?_) | (with_reducible refine Below.laid ?_ _) | (with_reducible refine Below.setCell ?_ ?_ _) | (with_reducible refine size_of ?_) | (with_reducible refine Nat.le_succ_of_le ?_) | go_size))) | exact HTT.keep (by (repeat' (first | (with_reducible exact Below.refl _ _) | (with_reducible assumption) | (with_reducible refine Below.next ?_ (by with_reducible assumption)) | (with_reducible refine Below.drew ?_) | (with_reducible refine Below.laid ?_ _) | (with_reducible refine Below.setCell ?_ ?_ _) | (with_reducible refine size_of ?_) | (with_reducible refine Nat.le_succ_of_le ?_) | go_size))))).mono ?_; rintro e w' ⟨rfl, rfl⟩; (first | rw [hx.out] | rw [hy.out]))
        all_goals (first | (exfalso; omega) | (go_ret; exact ⟨rfl, by (repeat' (first | (with_reducible exact Below.refl _ _) | (with_reducible assumption) | (with_reducible refine Below.next ?_ (by with_reducible assumption)) | (with_reducible refine Below.drew ?_) | (with_reducible refine Below.laid ?_ _) | (with_reducible refine Below.setCell ?_ ?_ _) | (with_reducible refine size_of ?_) | (with_reducible refine Nat.le_succ_of_le ?_) | go_size))⟩))
      have hn1 : ¬ 20 < n := hb
      clear hb
      by_cases hb : n ≠ 0
      · rw [show errV (Venn.nChk 2 n) = .iface 73 (.int .i64 1) from errV_ne (e := 1) (by decide) ▸ by rw [Venn.nChk, if_pos (by omega)]]
        have hnz : (n != 0) = true := by simpa using hb
        go_enter Tryz.func60, Tryz.ntmps60
        go_wp2_with (go_at_call 84; refine (term_Check _ _ _ (by first | exact hs.keep (by (repeat' (first | (with_reducible exact Below.refl _ _) | (with_reducible assumption) | (with_reducible refine Below.next ?_ (by with_reducible assumption)) | (with_reducible refine Below.drew ?_) | (with_reducible refine Below.laid ?_ _) | (with_reducible refine Below.setCell ?_ ?_ _) | (with_reducible refine size_of ?_) | (with_reducible refine Nat.le_succ_of_le ?_) | go_size))) | exact HTT.keep (by (repeat' (first | (with_reducible exact Below.refl _ _) | (with_reducible assumption) | (with_reducible refine Below.next ?_ (by with_reducible assumption)) | (with_reducible refine Below.drew ?_) | (with_reducible refine Below.laid ?_ _) | (with_reducible refine Below.setCell ?_ ?_ _) | (with_reducible refine size_of ?_) | (with_reducible refine Nat.le_succ_of_le ?_) | go_size))))).mono ?_; rintro e w' ⟨rfl, rfl⟩; (first | rw [hx.out] | rw [hy.out]))
        all_goals (first | (exfalso; omega) | (go_ret; exact ⟨rfl, by (repeat' (first | (with_reducible exact Below.refl _ _) | (with_reducible assumption) | (with_reducible refine Below.next ?_ (by with_reducible assumption)) | (with_reducible refine Below.drew ?_) | (with_reducible refine Below.laid ?_ _) | (with_reducible refine Below.setCell ?_ ?_ _) | (with_reducible refine size_of ?_) | (with_reducible refine Nat.le_succ_of_le ?_) | go_size))⟩))
      have hnz : (n != 0) = false := by simpa using hb
      obtain rfl : n = 0 := by omega
      clear hb
      rw [show errV (Venn.nChk 2 0) = .nilIface from errV_zero (by rw [Venn.nChk, if_neg (by omega)])]
      go_enter Tryz.func60, Tryz.ntmps60
      go_wp2_with (go_at_call 84; refine (term_Check _ _ _ (by first | exact hs.keep (by (repeat' (first | (with_reducible exact Below.refl _ _) | (with_reducible assumption) | (with_reducible refine Below.next ?_ (by with_reducible assumption)) | (with_reducible refine Below.drew ?_) | (with_reducible refine Below.laid ?_ _) | (with_reducible refine Below.setCell ?_ ?_ _) | (with_reducible refine size_of ?_) | (with_reducible refine Nat.le_succ_of_le ?_) | go_size))) | exact HTT.keep (by (repeat' (first | (with_reducible exact Below.refl _ _) | (with_reducible assumption) | (with_reducible refine Below.next ?_ (by with_reducible assumption)) | (with_reducible refine Below.drew ?_) | (with_reducible refine Below.laid ?_ _) | (with_reducible refine Below.setCell ?_ ?_ _) | (with_reducible refine size_of ?_) | (with_reducible refine Nat.le_succ_of_le ?_) | go_size))))).mono ?_; rintro e w' ⟨rfl, rfl⟩; (first | rw [hx.out] | rw [hy.out]))
      all_goals (first | (exfalso; omega) | (go_ret; exact ⟨rfl, by (repeat' (first | (with_reducible exact Below.refl _ _) | (with_reducible assumption) | (with_reducible refine Below.next ?_ (by with_reducible assumption)) | (with_reducible refine Below.drew ?_) | (with_reducible refine Below.laid ?_ _) | (with_reducible refine Below.setCell ?_ ?_ _) | (with_reducible refine size_of ?_) | (with_reducible refine Nat.le_succ_of_le ?_) | go_size))⟩))
    · have hy := Lib.hid (errV_ne h2)
      have hv : Venn.atomChk ⟨2, s, t, n⟩ = Venn.termChk t := by simp [Venn.atomChk, h1, h2, Venn.hasT]
      rw [hv, errV_ne h2]
      clear hv h1 h2
      go_enter Tryz.func60, Tryz.ntmps60
      go_wp2_with (go_at_call 84; refine (term_Check _ _ _ (by first | exact hs.keep (by (repeat' (first | (with_reducible exact Below.refl _ _) | (with_reducible assumption) | (with_reducible refine Below.next ?_ (by with_reducible assumption)) | (with_reducible refine Below.drew ?_) | (with_reducible refine Below.laid ?_ _) | (with_reducible refine Below.setCell ?_ ?_ _) | (with_reducible refine size_of ?_) | (with_reducible refine Nat.le_succ_of_le ?_) | go_size))) | exact HTT.keep (by (repeat' (first | (with_reducible exact Below.refl _ _) | (with_reducible assumption) | (with_reducible refine Below.next ?_ (by with_reducible assumption)) | (with_reducible refine Below.drew ?_) | (with_reducible refine Below.laid ?_ _) | (with_reducible refine Below.setCell ?_ ?_ _) | (with_reducible refine size_of ?_) | (with_reducible refine Nat.le_succ_of_le ?_) | go_size))))).mono ?_; rintro e w' ⟨rfl, rfl⟩; (first | rw [hx.out] | rw [hy.out]))
      go_ret
      exact ⟨rfl, by (repeat' (first | (with_reducible exact Below.refl _ _) | (with_reducible assumption) | (with_reducible refine Below.next ?_ (by with_reducible assumption)) | (with_reducible refine Below.drew ?_) | (with_reducible refine Below.laid ?_ _) | (with_reducible refine Below.setCell ?_ ?_ _) | (with_reducible refine size_of ?_) | (with_reducible refine Nat.le_succ_of_le ?_) | go_size))⟩
  · have hx := Lib.hid (errV_ne h1)
    have hv : Venn.atomChk ⟨2, s, t, n⟩ = Venn.termChk s := by simp [Venn.atomChk, h1]
    rw [hv, errV_ne h1]
    clear hv h1
    go_enter Tryz.func60, Tryz.ntmps60
    go_wp2_with (go_at_call 84; refine (term_Check _ s _ (hs.keep (by (repeat' (first | (with_reducible exact Below.refl _ _) | (with_reducible assumption) | (with_reducible refine Below.next ?_ (by with_reducible assumption)) | (with_reducible refine Below.drew ?_) | (with_reducible refine Below.laid ?_ _) | (with_reducible refine Below.setCell ?_ ?_ _) | (with_reducible refine size_of ?_) | (with_reducible refine Nat.le_succ_of_le ?_) | go_size))))).mono ?_; rintro e w' ⟨rfl, rfl⟩; rw [hx.out])
    go_ret
    exact ⟨rfl, by (repeat' (first | (with_reducible exact Below.refl _ _) | (with_reducible assumption) | (with_reducible refine Below.next ?_ (by with_reducible assumption)) | (with_reducible refine Below.drew ?_) | (with_reducible refine Below.laid ?_ _) | (with_reducible refine Below.setCell ?_ ?_ _) | (with_reducible refine size_of ?_) | (with_reducible refine Nat.le_succ_of_le ?_) | go_size))⟩

set_option maxHeartbeats 2000000 in
set_option maxRecDepth 100000 in
theorem atom_Check3 (n : Int) (sv tv : Value) (s t : List Int) (w : World) (hs : IsInts w sv s) (ht : IsInts w tv t) (hk : KindsOk w) :
    Calls Tryz.prog 60 #[.agg #[.int .i64 3, sv, tv, .int .i64 n]] w (Keeps (errV (Venn.atomChk ⟨3, s, t, n⟩)) w) := by
  obtain ⟨tA, tc, rfl, htr, htl, htc⟩ := ht
  have HTT : IsInts w (.slice tA t.length tc) t := ⟨tA, tc, rfl, htr, htl, htc⟩
  have k0 : w.cell? ⟨0, 9, none⟩ = some (str [108, 101, 97, 115, 116]) := hk 9 _ rfl
  have k1 : w.cell? ⟨0, 10, none⟩ = some (.bool false) := hk 10 _ rfl
  have k2 : w.cell? ⟨0, 11, none⟩ = some (.bool true) := hk 11 _ rfl
  have hg : 0 < w.heap.size := cell_lt k0
  unfold str at k0
  clear htr htl htc
  by_cases h1 : Venn.termChk s = 0
  · have hx := Lib.hid (errV_zero h1)
    by_cases h2 : t = []
    · subst h2
      have hv : Venn.atomChk ⟨3, s, [], n⟩ = Venn.nChk 3 n := by simp [Venn.atomChk, h1, Venn.hasT]
      rw [hv]
      clear hv h1
      by_cases hb : n < -20
      · rw [show errV (Venn.nChk 3 n) = .iface 73 (.int .i64 1) from errV_ne (e := 1) (by decide) ▸ by rw [Venn.nChk, if_pos (by omega)]]
        go_enter Tryz.func60, Tryz.ntmps60
        go_wp2_with (go_at_call 84; refine (term_Check _ s _ (hs.keep (by (repeat' (first | (with_reducible exact Below.refl _ _) | (with_reducible assumption) | (with_reducible refine Below.next ?_ (by with_reducible assumption)) | (with_reducible refine Below.drew ?_) | (with_reducible refine Below.laid ?_ _) | (with_reducible refine Below.setCell ?_ ?_ _) | (with_reducible refine size_of ?_) | (with_reducible refine Nat.le_succ_of_le ?_) | go_size))))).mono ?_; rintro e w' ⟨rfl, rfl⟩; rw [hx.out])
        all_goals (first | (exfalso; omega) | (go_ret; exact ⟨rfl, by (repeat' (first | (with_reducible exact Below.refl _ _) | (with_reducible assumption) | (with_reducible refine Below.next ?_ (by with_reducible assumption)) | (with_reducible refine Below.drew ?_) | (with_reducible refine Below.laid ?_ _) | (with_reducible refine Below.setCell ?_ ?_ _) | (with_reducible refine size_of ?_) | (with_reducible refine Nat.le_succ_of_le ?_) | go_size))⟩))
      have hn0 : ¬ n < -20 := hb
      clear hb
      by_cases hb : 20 < n
      · rw [show errV (Venn.nChk 3 n) = .iface 73 (.int .i64 1) from errV_ne (e := 1) (by decide) ▸ by rw [Venn.nChk, if_pos (by omega)]]
        go_enter Tryz.func60, Tryz.ntmps60
        go_wp2_with (go_at_call 84; refine (term_Check _ s _ (hs.keep (by (repeat' (first | (with_reducible exact Below.refl _ _) | (with_reducible assumption) | (with_reducible refine Below.next ?_ (by with_reducible assumption)) | (with_reducible refine Below.drew ?_) | (with_reducible refine Below.laid ?_ _) | (with_reducible refine Below.setCell ?_ ?_ _) | (with_reducible refine size_of ?_) | (with_reducible refine Nat.le_succ_of_le ?_) | go_size))))).mono ?_; rintro e w' ⟨rfl, rfl⟩; rw [hx.out])
        all_goals (first | (exfalso; omega) | (go_ret; exact ⟨rfl, by (repeat' (first | (with_reducible exact Below.refl _ _) | (with_reducible assumption) | (with_reducible refine Below.next ?_ (by with_reducible assumption)) | (with_reducible refine Below.drew ?_) | (with_reducible refine Below.laid ?_ _) | (with_reducible refine Below.setCell ?_ ?_ _) | (with_reducible refine size_of ?_) | (with_reducible refine Nat.le_succ_of_le ?_) | go_size))⟩))
      have hn1 : ¬ 20 < n := hb
      clear hb
      rw [show errV (Venn.nChk 3 n) = .nilIface from errV_zero (by rw [Venn.nChk, if_neg (by omega)])]
      go_enter Tryz.func60, Tryz.ntmps60
      go_wp2_with (go_at_call 84; refine (term_Check _ s _ (hs.keep (by (repeat' (first | (with_reducible exact Below.refl _ _) | (with_reducible assumption) | (with_reducible refine Below.next ?_ (by with_reducible assumption)) | (with_reducible refine Below.drew ?_) | (with_reducible refine Below.laid ?_ _) | (with_reducible refine Below.setCell ?_ ?_ _) | (with_reducible refine size_of ?_) | (with_reducible refine Nat.le_succ_of_le ?_) | go_size))))).mono ?_; rintro e w' ⟨rfl, rfl⟩; rw [hx.out])
      all_goals (first | (exfalso; omega) | (go_ret; exact ⟨rfl, by (repeat' (first | (with_reducible exact Below.refl _ _) | (with_reducible assumption) | (with_reducible refine Below.next ?_ (by with_reducible assumption)) | (with_reducible refine Below.drew ?_) | (with_reducible refine Below.laid ?_ _) | (with_reducible refine Below.setCell ?_ ?_ _) | (with_reducible refine size_of ?_) | (with_reducible refine Nat.le_succ_of_le ?_) | go_size))⟩))
    · have hp : 0 < t.length := by
        rcases t with _ | ⟨x, t⟩
        · exact absurd rfl h2
        · simp
      have hv : Venn.atomChk ⟨3, s, t, n⟩ = 3 := by simp [Venn.atomChk, h1, h2, Venn.hasT]
      rw [hv, show errV 3 = .iface 73 (.int .i64 3) from rfl]
      clear hv h1 h2
      go_enter Tryz.func60, Tryz.ntmps60
      go_wp2_with (go_at_call 84; refine (term_Check _ s _ (hs.keep (by (repeat' (first | (with_reducible exact Below.refl _ _) | (with_reducible assumption) | (with_reducible refine Below.next ?_ (by with_reducible assumption)) | (with_reducible refine Below.drew ?_) | (with_reducible refine Below.laid ?_ _) | (with_reducible refine Below.setCell ?_ ?_ _) | (with_reducible refine size_of ?_) | (with_reducible refine Nat.le_succ_of_le ?_) | go_size))))).mono ?_; rintro e w' ⟨rfl, rfl⟩; rw [hx.out])
      go_ret
      exact ⟨rfl, by (repeat' (first | (with_reducible exact Below.refl _ _) | (with_reducible assumption) | (with_reducible refine Below.next ?_ (by with_reducible assumption)) | (with_reducible refine Below.drew ?_) | (with_reducible refine Below.laid ?_ _) | (with_reducible refine Below.setCell ?_ ?_ _) | (with_reducible refine size_of ?_) | (with_reducible refine Nat.le_succ_of_le ?_) | go_size))⟩
  · have hx := Lib.hid (errV_ne h1)
    have hv : Venn.atomChk ⟨3, s, t, n⟩ = Venn.termChk s := by simp [Venn.atomChk, h1]
    rw [hv, errV_ne h1]
    clear hv h1
    go_enter Tryz.func60, Tryz.ntmps60
    go_wp2_with (go_at_call 84; refine (term_Check _ s _ (hs.keep (by (repeat' (first | (with_reducible exact Below.refl _ _) | (with_reducible assumption) | (with_reducible refine Below.next ?_ (by with_reducible assumption)) | (with_reducible refine Below.drew ?_) | (with_reducible refine Below.laid ?_ _) | (with_reducible refine Below.setCell ?_ ?_ _) | (with_reducible refine size_of ?_) | (with_reducible refine Nat.le_succ_of_le ?_) | go_size))))).mono ?_; rintro e w' ⟨rfl, rfl⟩; rw [hx.out])
    go_ret
    exact ⟨rfl, by (repeat' (first | (with_reducible exact Below.refl _ _) | (with_reducible assumption) | (with_reducible refine Below.next ?_ (by with_reducible assumption)) | (with_reducible refine Below.drew ?_) | (with_reducible refine Below.laid ?_ _) | (with_reducible refine Below.setCell ?_ ?_ _) | (with_reducible refine size_of ?_) | (with_reducible refine Nat.le_succ_of_le ?_) | go_size))⟩

set_option maxHeartbeats 2000000 in
set_option maxRecDepth 100000 in
theorem atom_Check4 (n : Int) (sv tv : Value) (s t : List Int) (w : World) (hs : IsInts w sv s) (ht : IsInts w tv t) (hk : KindsOk w) :
    Calls Tryz.prog 60 #[.agg #[.int .i64 4, sv, tv, .int .i64 n]] w (Keeps (errV (Venn.atomChk ⟨4, s, t, n⟩)) w) := by
  obtain ⟨tA, tc, rfl, htr, htl, htc⟩ := ht
  have HTT : IsInts w (.slice tA t.length tc) t := ⟨tA, tc, rfl, htr, htl, htc⟩
  have k0 : w.cell? ⟨0, 12, none⟩ = some (str [109, 111, 115, 116]) := hk 12 _ rfl
  have k1 : w.cell? ⟨0, 13, none⟩ = some (.bool false) := hk 13 _ rfl
  have k2 : w.cell? ⟨0, 14, none⟩ = some (.bool true) := hk 14 _ rfl
  have hg : 0 < w.heap.size := cell_lt k0
  unfold str at k0
  clear htr htl htc
  by_cases h1 : Venn.termChk s = 0
  · have hx := Lib.hid (errV_zero h1)
    by_cases h2 : t = []
    · subst h2
      have hv : Venn.atomChk ⟨4, s, [], n⟩ = Venn.nChk 4 n := by simp [Venn.atomChk, h1, Venn.hasT]
      rw [hv]
      clear hv h1
      by_cases hb : n < -20
      · rw [show errV (Venn.nChk 4 n) = .iface 73 (.int .i64 1) from errV_ne (e := 1) (by decide) ▸ by rw [Venn.nChk, if_pos (by omega)]]
        go_enter Tryz.func60, Tryz.ntmps60
        go_wp2_with (go_at_call 84; refine (term_Check _ s _ (hs.keep (by (repeat' (first | (with_reducible exact Below.refl _ _) | (with_reducible assumption) | (with_reducible refine Below.next ?_ (by with_reducible assumption)) | (with_reducible refine Below.drew ?_) | (with_reducible refine Below.laid ?_ _) | (with_reducible refine Below.setCell ?_ ?_ _) | (with_reducible refine size_of ?_) | (with_reducible refine Nat.le_succ_of_le ?_) | go_size))))).mono ?_; rintro e w' ⟨rfl, rfl⟩; rw [hx.out])
        all_goals (first | (exfalso; omega) | (go_ret; exact ⟨rfl, by (repeat' (first | (with_reducible exact Below.refl _ _) | (with_reducible assumption) | (with_reducible refine Below.next ?_ (by with_reducible assumption)) | (with_reducible refine Below.drew ?_) | (with_reducible refine Below.laid ?_ _) | (with_reducible refine Below.setCell ?_ ?_ _) | (with_reducible refine size_of ?_) | (with_reducible refine Nat.le_succ_of_le ?_) | go_size))⟩))
      have hn0 : ¬ n < -20 := hb
      clear hb
      by_cases hb : 20 < n
      · rw [show errV (Venn.nChk 4 n) = .iface 73 (.int .i64 1) from errV_ne (e := 1) (by decide) ▸ by rw [Venn.nChk, if_pos (by omega)]]
        go_enter Tryz.func60, Tryz.ntmps60
        go_wp2_with (go_at_call 84; refine (term_Check _ s _ (hs.keep (by (repeat' (first | (with_reducible exact Below.refl _ _) | (with_reducible assumption) | (with_reducible refine Below.next ?_ (by with_reducible assumption)) | (with_reducible refine Below.drew ?_) | (with_reducible refine Below.laid ?_ _) | (with_reducible refine Below.setCell ?_ ?_ _) | (with_reducible refine size_of ?_) | (with_reducible refine Nat.le_succ_of_le ?_) | go_size))))).mono ?_; rintro e w' ⟨rfl, rfl⟩; rw [hx.out])
        all_goals (first | (exfalso; omega) | (go_ret; exact ⟨rfl, by (repeat' (first | (with_reducible exact Below.refl _ _) | (with_reducible assumption) | (with_reducible refine Below.next ?_ (by with_reducible assumption)) | (with_reducible refine Below.drew ?_) | (with_reducible refine Below.laid ?_ _) | (with_reducible refine Below.setCell ?_ ?_ _) | (with_reducible refine size_of ?_) | (with_reducible refine Nat.le_succ_of_le ?_) | go_size))⟩))
      have hn1 : ¬ 20 < n := hb
      clear hb
      rw [show errV (Venn.nChk 4 n) = .nilIface from errV_zero (by rw [Venn.nChk, if_neg (by omega)])]
      go_enter Tryz.func60, Tryz.ntmps60
      go_wp2_with (go_at_call 84; refine (term_Check _ s _ (hs.keep (by (repeat' (first | (with_reducible exact Below.refl _ _) | (with_reducible assumption) | (with_reducible refine Below.next ?_ (by with_reducible assumption)) | (with_reducible refine Below.drew ?_) | (with_reducible refine Below.laid ?_ _) | (with_reducible refine Below.setCell ?_ ?_ _) | (with_reducible refine size_of ?_) | (with_reducible refine Nat.le_succ_of_le ?_) | go_size))))).mono ?_; rintro e w' ⟨rfl, rfl⟩; rw [hx.out])
      all_goals (first | (exfalso; omega) | (go_ret; exact ⟨rfl, by (repeat' (first | (with_reducible exact Below.refl _ _) | (with_reducible assumption) | (with_reducible refine Below.next ?_ (by with_reducible assumption)) | (with_reducible refine Below.drew ?_) | (with_reducible refine Below.laid ?_ _) | (with_reducible refine Below.setCell ?_ ?_ _) | (with_reducible refine size_of ?_) | (with_reducible refine Nat.le_succ_of_le ?_) | go_size))⟩))
    · have hp : 0 < t.length := by
        rcases t with _ | ⟨x, t⟩
        · exact absurd rfl h2
        · simp
      have hv : Venn.atomChk ⟨4, s, t, n⟩ = 3 := by simp [Venn.atomChk, h1, h2, Venn.hasT]
      rw [hv, show errV 3 = .iface 73 (.int .i64 3) from rfl]
      clear hv h1 h2
      go_enter Tryz.func60, Tryz.ntmps60
      go_wp2_with (go_at_call 84; refine (term_Check _ s _ (hs.keep (by (repeat' (first | (with_reducible exact Below.refl _ _) | (with_reducible assumption) | (with_reducible refine Below.next ?_ (by with_reducible assumption)) | (with_reducible refine Below.drew ?_) | (with_reducible refine Below.laid ?_ _) | (with_reducible refine Below.setCell ?_ ?_ _) | (with_reducible refine size_of ?_) | (with_reducible refine Nat.le_succ_of_le ?_) | go_size))))).mono ?_; rintro e w' ⟨rfl, rfl⟩; rw [hx.out])
      go_ret
      exact ⟨rfl, by (repeat' (first | (with_reducible exact Below.refl _ _) | (with_reducible assumption) | (with_reducible refine Below.next ?_ (by with_reducible assumption)) | (with_reducible refine Below.drew ?_) | (with_reducible refine Below.laid ?_ _) | (with_reducible refine Below.setCell ?_ ?_ _) | (with_reducible refine size_of ?_) | (with_reducible refine Nat.le_succ_of_le ?_) | go_size))⟩
  · have hx := Lib.hid (errV_ne h1)
    have hv : Venn.atomChk ⟨4, s, t, n⟩ = Venn.termChk s := by simp [Venn.atomChk, h1]
    rw [hv, errV_ne h1]
    clear hv h1
    go_enter Tryz.func60, Tryz.ntmps60
    go_wp2_with (go_at_call 84; refine (term_Check _ s _ (hs.keep (by (repeat' (first | (with_reducible exact Below.refl _ _) | (with_reducible assumption) | (with_reducible refine Below.next ?_ (by with_reducible assumption)) | (with_reducible refine Below.drew ?_) | (with_reducible refine Below.laid ?_ _) | (with_reducible refine Below.setCell ?_ ?_ _) | (with_reducible refine size_of ?_) | (with_reducible refine Nat.le_succ_of_le ?_) | go_size))))).mono ?_; rintro e w' ⟨rfl, rfl⟩; rw [hx.out])
    go_ret
    exact ⟨rfl, by (repeat' (first | (with_reducible exact Below.refl _ _) | (with_reducible assumption) | (with_reducible refine Below.next ?_ (by with_reducible assumption)) | (with_reducible refine Below.drew ?_) | (with_reducible refine Below.laid ?_ _) | (with_reducible refine Below.setCell ?_ ?_ _) | (with_reducible refine size_of ?_) | (with_reducible refine Nat.le_succ_of_le ?_) | go_size))⟩

set_option maxHeartbeats 2000000 in
set_option maxRecDepth 100000 in
theorem atom_Check5 (n : Int) (sv tv : Value) (s t : List Int) (w : World) (hs : IsInts w sv s) (ht : IsInts w tv t) (hk : KindsOk w) :
    Calls Tryz.prog 60 #[.agg #[.int .i64 5, sv, tv, .int .i64 n]] w (Keeps (errV (Venn.atomChk ⟨5, s, t, n⟩)) w) := by
  obtain ⟨tA, tc, rfl, htr, htl, htc⟩ := ht
  have HTT : IsInts w (.slice tA t.length tc) t := ⟨tA, tc, rfl, htr, htl, htc⟩
  have k0 : w.cell? ⟨0, 15, none⟩ = some (str [110, 111, 109, 111, 114, 101]) := hk 15 _ rfl
  have k1 : w.cell? ⟨0, 16, none⟩ = some (.bool true) := hk 16 _ rfl
  have k2 : w.cell? ⟨0, 17, none⟩ = some (.bool true) := hk 17 _ rfl
  have hg : 0 < w.heap.size := cell_lt k0
  unfold str at k0
  clear htr htl htc
  by_cases h1 : Venn.termChk s = 0
  · have hx := Lib.hid (errV_zero h1)
    by_cases h2 : Venn.termChk t = 0
    · have hy := Lib.hid (errV_zero h2)
      have hv : Venn.atomChk ⟨5, s, t, n⟩ = Venn.nChk 5 n := by simp [Venn.atomChk, h1, h2, Venn.hasT]
      rw [hv]
      clear hv h1 h2
      by_cases hb : n < -20
      · rw [show errV (Venn.nChk 5 n) = .iface 73 (.int .i64 1) from errV_ne (e := 1) (by decide) ▸ by rw [Venn.nChk, if_pos (by omega)]]
        go_enter Tryz.func60, Tryz.ntmps60
        go_wp2_with (go_at_call 84; refine (term_Check _ _ _ (by first | exact hs.keep (by (repeat' (first | (with_reducible exact Below.refl _ _) | (with_reducible assumption) | (with_reducible refine Below.next ?_ (by with_reducible assumption)) | (with_reducible refine Below.drew ?_) | (with_reducible refine Below.laid ?_ _) | (with_reducible refine Below.setCell ?_ ?_ _) | (with_reducible refine size_of ?_) | (with_reducible refine Nat.le_succ_of_le ?_) | go_size))) | exact HTT.keep (by (repeat' (first | (with_reducible exact Below.refl _ _) | (with_reducible assumption) | (with_reducible refine Below.next ?_ (by with_reducible assumption)) | (with_reducible refine Below.drew ?_) | (with_reducible refine Below.laid ?_ _) | (with_reducible refine Below.setCell ?_ ?_ _) | (with_reducible refine size_of ?_) | (with_reducible refine Nat.le_succ_of_le ?_) | go_size))))).mono ?_; rintro e w' ⟨rfl, rfl⟩; (first | rw [hx.out] | rw [hy.out]))
        all_goals (first | (exfalso; omega) | (go_ret; exact ⟨rfl, by (repeat' (first | (with_reducible exact Below.refl _ _) | (with_reducible assumption) | (with_reducible refine Below.next ?_ (by with_reducible assumption)) | (with_reducible refine Below.drew ?_) | (with_reducible refine Below.laid ?_ _) | (with_reducible refine Below.setCell ?_ ?_ _) | (with_reducible refine size_of ?_) | (with_reducible refine Nat.le_succ_of_le ?_) | go_size))⟩))
      have hn0 : ¬ n < -20 := hb
      clear hb
      by_cases hb : 20 < n
      · rw [show errV (Venn.nChk 5 n) = .iface 73 (.int .i64 1) from errV_ne (e := 1) (by decide) ▸ by rw [Venn.nChk, if_pos (by omega)]]
        go_enter Tryz.func60, Tryz.ntmps60
        go_wp2_with (go_at_call 84; refine (term_Check _ _ _ (by first | exact hs.keep (by (repeat' (first | (with_reducible exact Below.refl _ _) | (with_reducible assumption) | (with_reducible refine Below.next ?_ (by with_reducible assumption)) | (with_reducible refine Below.drew ?_) | (with_reducible refine Below.laid ?_ _) | (with_reducible refine Below.setCell ?_ ?_ _) | (with_reducible refine size_of ?_) | (with_reducible refine Nat.le_succ_of_le ?_) | go_size))) | exact HTT.keep (by (repeat' (first | (with_reducible exact Below.refl _ _) | (with_reducible assumption) | (with_reducible refine Below.next ?_ (by with_reducible assumption)) | (with_reducible refine Below.drew ?_) | (with_reducible refine Below.laid ?_ _) | (with_reducible refine Below.setCell ?_ ?_ _) | (with_reducible refine size_of ?_) | (with_reducible refine Nat.le_succ_of_le ?_) | go_size))))).mono ?_; rintro e w' ⟨rfl, rfl⟩; (first | rw [hx.out] | rw [hy.out]))
        all_goals (first | (exfalso; omega) | (go_ret; exact ⟨rfl, by (repeat' (first | (with_reducible exact Below.refl _ _) | (with_reducible assumption) | (with_reducible refine Below.next ?_ (by with_reducible assumption)) | (with_reducible refine Below.drew ?_) | (with_reducible refine Below.laid ?_ _) | (with_reducible refine Below.setCell ?_ ?_ _) | (with_reducible refine size_of ?_) | (with_reducible refine Nat.le_succ_of_le ?_) | go_size))⟩))
      have hn1 : ¬ 20 < n := hb
      clear hb
      rw [show errV (Venn.nChk 5 n) = .nilIface from errV_zero (by rw [Venn.nChk, if_neg (by omega)])]
      go_enter Tryz.func60, Tryz.ntmps60
      go_wp2_with (go_at_call 84; refine (term_Check _ _ _ (by first | exact hs.keep (by (repeat' (first | (with_reducible exact Below.refl _ _) | (with_reducible assumption) | (with_reducible refine Below.next ?_ (by with_reducible assumption)) | (with_reducible refine Below.drew ?_) | (with_reducible refine Below.laid ?_ _) | (with_reducible refine Below.setCell ?_ ?_ _) | (with_reducible refine size_of ?_) | (with_reducible refine Nat.le_succ_of_le ?_) | go_size))) | exact HTT.keep (by (repeat' (first | (with_reducible exact Below.refl _ _) | (with_reducible assumption) | (with_reducible refine Below.next ?_ (by with_reducible assumption)) | (with_reducible refine Below.drew ?_) | (with_reducible refine Below.laid ?_ _) | (with_reducible refine Below.setCell ?_ ?_ _) | (with_reducible refine size_of ?_) | (with_reducible refine Nat.le_succ_of_le ?_) | go_size))))).mono ?_; rintro e w' ⟨rfl, rfl⟩; (first | rw [hx.out] | rw [hy.out]))
      all_goals (first | (exfalso; omega) | (go_ret; exact ⟨rfl, by (repeat' (first | (with_reducible exact Below.refl _ _) | (with_reducible assumption) | (with_reducible refine Below.next ?_ (by with_reducible assumption)) | (with_reducible refine Below.drew ?_) | (with_reducible refine Below.laid ?_ _) | (with_reducible refine Below.setCell ?_ ?_ _) | (with_reducible refine size_of ?_) | (with_reducible refine Nat.le_succ_of_le ?_) | go_size))⟩))
    · have hy := Lib.hid (errV_ne h2)
      have hv : Venn.atomChk ⟨5, s, t, n⟩ = Venn.termChk t := by simp [Venn.atomChk, h1, h2, Venn.hasT]
      rw [hv, errV_ne h2]
      clear hv h1 h2
      go_enter Tryz.func60, Tryz.ntmps60
      go_wp2_with (go_at_call 84; refine (term_Check _ _ _ (by first | exact hs.keep (by (repeat' (first | (with_reducible exact Below.refl _ _) | (with_reducible assumption) | (with_reducible refine Below.next ?_ (by with_reducible assumption)) | (with_reducible refine Below.drew ?_) | (with_reducible refine Below.laid ?_ _) | (with_reducible refine Below.setCell ?_ ?_ _) | (with_reducible refine size_of ?_) | (with_reducible refine Nat.le_succ_of_le ?_) | go_size))) | exact HTT.keep (by (repeat' (first | (with_reducible exact Below.refl _ _) | (with_reducible assumption) | (with_reducible refine Below.next ?_ (by with_reducible assumption)) | (with_reducible refine Below.drew ?_) | (with_reducible refine Below.laid ?_ _) | (with_reducible refine Below.setCell ?_ ?_ _) | (with_reducible refine size_of ?_) | (with_reducible refine Nat.le_succ_of_le ?_) | go_size))))).mono ?_; rintro e w' ⟨rfl, rfl⟩; (first | rw [hx.out] | rw [hy.out]))
      go_ret
      exact ⟨rfl, by (repeat' (first | (with_reducible exact Below.refl _ _) | (with_reducible assumption) | (with_reducible refine Below.next ?_ (by with_reducible assumption)) | (with_reducible refine Below.drew ?_) | (with_reducible refine Below.laid ?_ _) | (with_reducible refine Below.setCell ?_ ?_ _) | (with_reducible refine size_of ?_) | (with_reducible refine Nat.le_succ_of_le ?_) | go_size))⟩
  · have hx := Lib.hid (errV_ne h1)
    have hv : Venn.atomChk ⟨5, s, t, n⟩ = Venn.termChk s := by simp [Venn.atomChk, h1]
    rw [hv, errV_ne h1]
    clear hv h1
    go_enter Tryz.func60, Tryz.ntmps60
    go_wp2_with (go_at_call 84; refine (term_Check _ s _ (hs.keep (by (repeat' (first | (with_reducible exact Below.refl _ _) | (with_reducible assumption) | (with_reducible refine Below.next ?_ (by with_reducible assumption)) | (with_reducible refine Below.drew ?_) | (with_reducible refine Below.laid ?_ _) | (with_reducible refine Below.setCell ?_ ?_ _) | (with_reducible refine size_of ?_) | (with_reducible refine Nat.le_succ_of_le ?_) | go_size))))).mono ?_; rintro e w' ⟨rfl, rfl⟩; rw [hx.out])
    go_ret
    exact ⟨rfl, by (repeat' (first | (with_reducible exact Below.refl _ _) | (with_reducible assumption) | (with_reducible refine Below.next ?_ (by with_reducible assumption)) | (with_reducible refine Below.drew ?_) | (with_reducible refine Below.laid ?_ _) | (with_reducible refine Below.setCell ?_ ?_ _) | (with_reducible refine size_of ?_) | (with_reducible refine Nat.le_succ_of_le ?_) | go_size))⟩

set_option maxHeartbeats 1000000 in
theorem atom_Check (what n : Int) (sv tv : Value) (s t : List Int) (w : World) (hs : IsInts w sv s) (ht : IsInts w tv t) (hk : KindsOk w) :
    Calls Tryz.prog 60 #[.agg #[.int .i64 what, sv, tv, .int .i64 n]] w (Keeps (errV (Venn.atomChk ⟨what, s, t, n⟩)) w) := by
  by_cases h1 : what < 1
  · rw [show errV (Venn.atomChk ⟨what, s, t, n⟩) = .iface 73 (.int .i64 1) by rw [Venn.atomChk, if_pos (Or.inl h1)]; rfl]
    go_enter Tryz.func60, Tryz.ntmps60
    go_wp2
    all_goals (first | (exfalso; omega) | (go_ret; exact ⟨rfl, by (repeat' (first | (with_reducible exact Below.refl _ _) | (with_reducible assumption) | (with_reducible refine Below.next ?_ (by with_reducible assumption)) | (with_reducible refine Below.drew ?_) | (with_reducible refine Below.laid ?_ _) | (with_reducible refine Below.setCell ?_ ?_ _) | (with_reducible refine size_of ?_) | (with_reducible refine Nat.le_succ_of_le ?_) | go_size))⟩))
  by_cases h5 : 5 < what
  · rw [show errV (Venn.atomChk ⟨what, s, t, n⟩) = .iface 73 (.int .i64 1) by rw [Venn.atomChk, if_pos (Or.inr h5)]; rfl]
    go_enter Tryz.func60, Tryz.ntmps60
    go_wp2
    all_goals (first | (exfalso; omega) | (go_ret; exact ⟨rfl, by (repeat' (first | (with_reducible exact Below.refl _ _) | (with_reducible assumption) | (with_reducible refine Below.next ?_ (by with_reducible assumption)) | (with_reducible refine Below.drew ?_) | (with_reducible refine Below.laid ?_ _) | (with_reducible refine Below.setCell ?_ ?_ _) | (with_reducible refine size_of ?_) | (with_reducible refine Nat.le_succ_of_le ?_) | go_size))⟩))
  rcases (by omega : what = 1 ∨ what = 2 ∨ what = 3 ∨ what = 4 ∨ what = 5) with rfl | rfl | rfl | rfl | rfl
  · exact atom_Check1 n sv tv s t w hs ht hk
  · exact atom_Check2 n sv tv s t w hs ht hk
  · exact atom_Check3 n sv tv s t w hs ht hk
  · exact atom_Check4 n sv tv s t w hs ht hk
  · exact atom_Check5 n sv tv s t w hs ht hk

end Go.Proofs.YtlpfbdejiifbpaaGreatDoor
