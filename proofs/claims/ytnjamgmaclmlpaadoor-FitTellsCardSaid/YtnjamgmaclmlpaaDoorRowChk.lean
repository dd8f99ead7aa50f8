/-
  THE WALK of rows.Check.
-/
import Derived.Test.YtnjamgmaclmlpaaDoorRowSo
namespace Go.Proofs.YtnjamgmaclmlpaaDoor
open Go.RowKit

set_option maxHeartbeats 4000000 in
set_option maxRecDepth 100000 in
theorem rows_Check (v : Value) (l : List (List Int)) (w : World) (hl : IsRows w v l) :
    Calls Tryd.prog 86 #[v] w (Keeps (errV (Venn.rowsChk l)) w) := by
  obtain ⟨A, c, rfl, hrd, hl9, hlc, hcc⟩ := hl
  unfold maxLen at hcc
  obtain ⟨E, hE⟩ : ∃ E, E = errV (Venn.rowsChk l) := ⟨_, rfl⟩
  rw [← hE]
  have HE := Lib.hid hE
  have HRD := Lib.hid hrd
  have HL9 := Lib.hid hl9
  clear hE hrd hl9
  by_cases h12 : 12 < l.length
  · have HV := Lib.hid (show E = .iface 101 (.int .i64 4) by rw [HE.out, Venn.rowsChk, if_pos h12]; rfl)
    have h12' : (12 : Int) < (l.length : Int) := by omega
    go_enter Tryd.func86, Tryd.ntmps86
    go_wp2
    go_ret
    exact ⟨congrArg Ending.returned HV.out.symm, by (repeat' (first | (with_reducible exact Below.refl _ _) | (with_reducible assumption) | (with_reducible refine Below.next ?_ (by with_reducible assumption)) | (with_reducible refine Below.drew ?_) | (with_reducible refine Below.laid ?_ _) | (with_reducible refine Below.setCell ?_ ?_ _) | (with_reducible refine size_of ?_) | (with_reducible refine Nat.le_succ_of_le ?_) | go_size))⟩
  have HG := Lib.hid (show E = errV (if l.all Venn.rowOk = true then 0 else 1) by rw [HE.out, Venn.rowsChk, if_neg h12])
  have h12' : ¬ (12 : Int) < (l.length : Int) := by omega
  go_enter Tryd.func86, Tryd.ntmps86
  go_wp2
  go_loopw [13] (fun i wr => ∃ k : Nat, k ≤ l.length ∧ i = .int .i64 k ∧ Below w.heap.size w wr ∧ E = errV (if (l.drop k).all Venn.rowOk = true then 0 else 1)) (fun i _ => l.length - (intOf i).toNat)
  case atStart => exact ⟨0, Nat.zero_le _, rfl, by (repeat' (first | (with_reducible exact Below.refl _ _) | (with_reducible assumption) | (with_reducible refine Below.next ?_ (by with_reducible assumption)) | (with_reducible refine Below.drew ?_) | (with_reducible refine Below.laid ?_ _) | (with_reducible refine Below.setCell ?_ ?_ _) | (with_reducible refine size_of ?_) | (with_reducible refine Nat.le_succ_of_le ?_) | go_size)), by rw [List.drop_zero]; exact HG.out⟩
  case round =>
    obtain ⟨k, hk, rfl, hb, hrest⟩ := hrel
    obtain ⟨wo, rfl⟩ : ∃ wo : World, wo = wr := ⟨_, rfl⟩
    have HR := Lib.hid hrest; clear hrest
    by_cases hlt : k < l.length
    · have HD := Lib.hid (List.drop_eq_getElem_cons hlt)
      obtain ⟨ad, x0, x1, x2, x3, x4, x5, x6, x7, x8, rfl, hx, hc0, hc1, hc2, hc3, hc4, hc5, hc6, hc7, hc8⟩ := (HRD.out.keep hb).row HL9.out hlt
      have HX := Lib.hid hx
      clear hx
      have bk1 : (0 : Int) ≤ (k : Int) := by omega
      have bk2 : (k : Int) < (l.length : Int) := by omega
      have HN := Lib.hid (show Venn.rowOk [x0, x1, x2, x3, x4, x5, x6, x7, x8] = false → E = .iface 101 (.int .i64 1) from fun h => by
        rw [HR.out, HD.out, HX.out, List.all_cons, h]; rfl)
      go_wp2
      refine wp_loop_rounds 9 ?_
      rw [rounds_succ]
      have hix := idx8_0 x0 x1 x2 x3 x4 x5 x6 x7
      by_cases hb0 : x0 < -2 ∨ 2 < x0
      · have HV := Lib.hid (HN.out (by
          cases hq : Venn.rowOk [x0, x1, x2, x3, x4, x5, x6, x7, x8]
          · rfl
          · simp only [Venn.rowOk, Bool.and_eq_true, decide_eq_true_eq] at hq; omega))
        rcases hb0 with hb0 | hb0
        all_goals
          go_wp2
          all_goals (first | (exfalso; omega) | (go_ret; exact ⟨congrArg Ending.returned HV.out.symm, by (repeat' (first | (with_reducible exact Below.refl _ _) | (with_reducible assumption) | (with_reducible refine Below.next ?_ (by with_reducible assumption)) | (with_reducible refine Below.drew ?_) | (with_reducible refine Below.laid ?_ _) | (with_reducible refine Below.setCell ?_ ?_ _) | (with_reducible refine size_of ?_) | (with_reducible refine Nat.le_succ_of_le ?_) | go_size))⟩))
      have r0 : -2 ≤ x0 ∧ x0 ≤ 2 := by omega
      clear hb0
      go_wp2
      all_goals (try (exfalso; omega))
      clear hix
      rw [rounds_succ]
      have hix := idx8_1 x0 x1 x2 x3 x4 x5 x6 x7
      by_cases hb1 : x1 < -2 ∨ 2 < x1
      · have HV := Lib.hid (HN.out (by
          cases hq : Venn.rowOk [x0, x1, x2, x3, x4, x5, x6, x7, x8]
          · rfl
          · simp only [Venn.rowOk, Bool.and_eq_true, decide_eq_true_eq] at hq; omega))
        rcases hb1 with hb1 | hb1
        all_goals
          go_wp2
          all_goals (first | (exfalso; omega) | (go_ret; exact ⟨congrArg Ending.returned HV.out.symm, by (repeat' (first | (with_reducible exact Below.refl _ _) | (with_reducible assumption) | (with_reducible refine Below.next ?_ (by with_reducible assumption)) | (with_reducible refine Below.drew ?_) | (with_reducible refine Below.laid ?_ _) | (with_reducible refine Below.setCell ?_ ?_ _) | (with_reducible refine size_of ?_) | (with_reducible refine Nat.le_succ_of_le ?_) | go_size))⟩))
      have r1 : -2 ≤ x1 ∧ x1 ≤ 2 := by omega
      clear hb1
      go_wp2
      all_goals (try (exfalso; omega))
      clear hix
      rw [rounds_succ]
      have hix := idx8_2 x0 x1 x2 x3 x4 x5 x6 x7
      by_cases hb2 : x2 < -2 ∨ 2 < x2
      · have HV := Lib.hid (HN.out (by
          cases hq : Venn.rowOk [x0, x1, x2, x3, x4, x5, x6, x7, x8]
          · rfl
          · simp only [Venn.rowOk, Bool.and_eq_true, decide_eq_true_eq] at hq; omega))
        rcases hb2 with hb2 | hb2
        all_goals
          go_wp2
          all_goals (first | (exfalso; omega) | (go_ret; exact ⟨congrArg Ending.returned HV.out.symm, by (repeat' (first | (with_reducible exact Below.refl _ _) | (with_reducible assumption) | (with_reducible refine Below.next ?_ (by with_reducible assumption)) | (with_reducible refine Below.drew ?_) | (with_reducible refine Below.laid ?_ _) | (with_reducible refine Below.setCell ?_ ?_ _) | (with_reducible refine size_of ?_) | (with_reducible refine Nat.le_succ_of_le ?_) | go_size))⟩))
      have r2 : -2 ≤ x2 ∧ x2 ≤ 2 := by omega
      clear hb2
      go_wp2
      all_goals (try (exfalso; omega))
      clear hix
      rw [rounds_succ]
      have hix := idx8_3 x0 x1 x2 x3 x4 x5 x6 x7
      by_cases hb3 : x3 < -2 ∨ 2 < x3
      · have HV := Lib.hid (HN.out (by
          cases hq : Venn.rowOk [x0, x1, x2, x3, x4, x5, x6, x7, x8]
          · rfl
          · simp only [Venn.rowOk, Bool.and_eq_true, decide_eq_true_eq] at hq; omega))
        rcases hb3 with hb3 | hb3
        all_goals
          go_wp2
          all_goals (first | (exfalso; omega) | (go_ret; exact ⟨congrArg Ending.returned HV.out.symm, by (repeat' (first | (with_reducible exact Below.refl _ _) | (with_reducible assumption) | (with_reducible refine Below.next ?_ (by with_reducible assumption)) | (with_reducible refine Below.drew ?_) | (with_reducible refine Below.laid ?_ _) | (with_reducible refine Below.setCell ?_ ?_ _) | (with_reducible refine size_of ?_) | (with_reducible refine Nat.le_succ_of_le ?_) | go_size))⟩))
      have r3 : -2 ≤ x3 ∧ x3 ≤ 2 := by omega
      clear hb3
      go_wp2
      all_goals (try (exfalso; omega))
      clear hix
      rw [rounds_succ]
      have hix := idx8_4 x0 x1 x2 x3 x4 x5 x6 x7
      by_cases hb4 : x4 < -2 ∨ 2 < x4
      · have HV := Lib.hid (HN.out (by
          cases hq : Venn.rowOk [x0, x1, x2, x3, x4, x5, x6, x7, x8]
          · rfl
          · simp only [Venn.rowOk, Bool.and_eq_true, decide_eq_true_eq] at hq; omega))
        rcases hb4 with hb4 | hb4
        all_goals
          go_wp2
          all_goals (first | (exfalso; omega) | (go_ret; exact ⟨congrArg Ending.returned HV.out.symm, by (repeat' (first | (with_reducible exact Below.refl _ _) | (with_reducible assumption) | (with_reducible refine Below.next ?_ (by with_reducible assumption)) | (with_reducible refine Below.drew ?_) | (with_reducible refine Below.laid ?_ _) | (with_reducible refine Below.setCell ?_ ?_ _) | (with_reducible refine size_of ?_) | (with_reducible refine Nat.le_succ_of_le ?_) | go_size))⟩))
      have r4 : -2 ≤ x4 ∧ x4 ≤ 2 := by omega
      clear hb4
      go_wp2
      all_goals (try (exfalso; omega))
      clear hix
      rw [rounds_succ]
      have hix := idx8_5 x0 x1 x2 x3 x4 x5 x6 x7
      by_cases hb5 : x5 < -2 ∨ 2 < x5
      · have HV := Lib.hid (HN.out (by
          cases hq : Venn.rowOk [x0, x1, x2, x3, x4, x5, x6, x7, x8]
          · rfl
          · simp only [Venn.rowOk, Bool.and_eq_true, decide_eq_true_eq] at hq; omega))
        rcases hb5 with hb5 | hb5
        all_goals
          go_wp2
          all_goals (first | (exfalso; omega) | (go_ret; exact ⟨congrArg Ending.returned HV.out.symm, by (repeat' (first | (with_reducible exact Below.refl _ _) | (with_reducible assumption) | (with_reducible refine Below.next ?_ (by with_reducible assumption)) | (with_reducible refine Below.drew ?_) | (with_reducible refine Below.laid ?_ _) | (with_reducible refine Below.setCell ?_ ?_ _) | (with_reducible refine size_of ?_) | (with_reducible refine Nat.le_succ_of_le ?_) | go_size))⟩))
      have r5 : -2 ≤ x5 ∧ x5 ≤ 2 := by omega
      clear hb5
      go_wp2
      all_goals (try (exfalso; omega))
      clear hix
      rw [rounds_succ]
      have hix := idx8_6 x0 x1 x2 x3 x4 x5 x6 x7
      by_cases hb6 : x6 < -2 ∨ 2 < x6
      · have HV := Lib.hid (HN.out (by
          cases hq : Venn.rowOk [x0, x1, x2, x3, x4, x5, x6, x7, x8]
          · rfl
          · simp only [Venn.rowOk, Bool.and_eq_true, decide_eq_true_eq] at hq; omega))
        rcases hb6 with hb6 | hb6
        all_goals
          go_wp2
          all_goals (first | (exfalso; omega) | (go_ret; exact ⟨congrArg Ending.returned HV.out.symm, by (repeat' (first | (with_reducible exact Below.refl _ _) | (with_reducible assumption) | (with_reducible refine Below.next ?_ (by with_reducible assumption)) | (with_reducible refine Below.drew ?_) | (with_reducible refine Below.laid ?_ _) | (with_reducible refine Below.setCell ?_ ?_ _) | (with_reducible refine size_of ?_) | (with_reducible refine Nat.le_succ_of_le ?_) | go_size))⟩))
      have r6 : -2 ≤ x6 ∧ x6 ≤ 2 := by omega
      clear hb6
      go_wp2
      all_goals (try (exfalso; omega))
      clear hix
      rw [rounds_succ]
      have hix := idx8_7 x0 x1 x2 x3 x4 x5 x6 x7
      by_cases hb7 : x7 < -2 ∨ 2 < x7
      · have HV := Lib.hid (HN.out (by
          cases hq : Venn.rowOk [x0, x1, x2, x3, x4, x5, x6, x7, x8]
          · rfl
          · simp only [Venn.rowOk, Bool.and_eq_true, decide_eq_true_eq] at hq; omega))
        rcases hb7 with hb7 | hb7
        all_goals
          go_wp2
          all_goals (first | (exfalso; omega) | (go_ret; exact ⟨congrArg Ending.returned HV.out.symm, by (repeat' (first | (with_reducible exact Below.refl _ _) | (with_reducible assumption) | (with_reducible refine Below.next ?_ (by with_reducible assumption)) | (with_reducible refine Below.drew ?_) | (with_reducible refine Below.laid ?_ _) | (with_reducible refine Below.setCell ?_ ?_ _) | (with_reducible refine size_of ?_) | (with_reducible refine Nat.le_succ_of_le ?_) | go_size))⟩))
      have r7 : -2 ≤ x7 ∧ x7 ≤ 2 := by omega
      clear hb7
      go_wp2
      all_goals (try (exfalso; omega))
      clear hix
      rw [rounds_succ]
      by_cases hb8 : x8 < -100 ∨ 100 < x8
      · have HV := Lib.hid (HN.out (by
          cases hq : Venn.rowOk [x0, x1, x2, x3, x4, x5, x6, x7, x8]
          · rfl
          · simp only [Venn.rowOk, Bool.and_eq_true, decide_eq_true_eq] at hq; omega))
        rcases hb8 with hb8 | hb8
        all_goals
          go_wp2
          all_goals (first | (exfalso; omega) | (go_ret; exact ⟨congrArg Ending.returned HV.out.symm, by (repeat' (first | (with_reducible exact Below.refl _ _) | (with_reducible assumption) | (with_reducible refine Below.next ?_ (by with_reducible assumption)) | (with_reducible refine Below.drew ?_) | (with_reducible refine Below.laid ?_ _) | (with_reducible refine Below.setCell ?_ ?_ _) | (with_reducible refine size_of ?_) | (with_reducible refine Nat.le_succ_of_le ?_) | go_size))⟩))
      have r8 : -100 ≤ x8 ∧ x8 ≤ 100 := by omega
      clear hb8
      have HV := Lib.hid (show E = errV (if (l.drop (k + 1)).all Venn.rowOk = true then 0 else 1) by
        have hq : Venn.rowOk [x0, x1, x2, x3, x4, x5, x6, x7, x8] = true := by simp only [Venn.rowOk, Bool.and_eq_true, decide_eq_true_eq]; omega
        rw [HR.out, HD.out, HX.out, List.all_cons, hq, Bool.true_and])
      go_wp2
      all_goals (try (exfalso; omega))
      go_roundw
      case rel => exact ⟨k + 1, by omega, by go_num, by (repeat' (first | (with_reducible exact Below.refl _ _) | (with_reducible assumption) | (with_reducible refine Below.next ?_ (by with_reducible assumption)) | (with_reducible refine Below.drew ?_) | (with_reducible refine Below.laid ?_ _) | (with_reducible refine Below.setCell ?_ ?_ _) | (with_reducible refine size_of ?_) | (with_reducible refine Nat.le_succ_of_le ?_) | go_size)), HV.out⟩
      case measure => simp [intOf]; omega
    · have hd1 : l.drop k = [] := List.drop_eq_nil_of_le (by omega)
      have HV := Lib.hid (show E = .nilIface by rw [HR.out, hd1]; rfl)
      clear hd1
      go_wp2
      go_ret
      exact ⟨congrArg Ending.returned HV.out.symm, hb⟩

set_option maxHeartbeats 1000000 in
theorem fit_check (u : Int) (v : Value) (l : List (List Int)) (w : World) (hl : IsRows w v l) : Calls Tryd.prog 53 #[.int .i64 u, v] w (Keeps (errV (Venn.fitChk u l)) w) := by
  cases hu : Venn.things u
  · rw [Venn.fitChk, hu, if_neg (by decide), show errV 1 = .iface 101 (.int .i64 1) from rfl]
    have HU := Lib.hid hu; clear hu
    go_enter Tryd.func53, Tryd.ntmps53
    go_wp2_with (go_at_call 58; refine (sets_Things _ _).mono ?_; rintro e w' ⟨rfl, rfl⟩; rw [HU.out])
    go_ret
    exact ⟨rfl, by (repeat' (first | (with_reducible exact Below.refl _ _) | (with_reducible assumption) | (with_reducible refine Below.next ?_ (by with_reducible assumption)) | (with_reducible refine Below.drew ?_) | (with_reducible refine Below.laid ?_ _) | (with_reducible refine Below.setCell ?_ ?_ _) | (with_reducible refine size_of ?_) | (with_reducible refine Nat.le_succ_of_le ?_) | go_size))⟩
  · rw [Venn.fitChk, hu, if_pos rfl]
    have HU := Lib.hid hu; clear hu
    go_enter Tryd.func53, Tryd.ntmps53
    go_wp2_with (first | (go_at_call 58; refine (sets_Things _ _).mono ?_; rintro e w' ⟨rfl, rfl⟩; rw [HU.out]) | (go_at_call 86; refine (rows_Check _ l _ (hl.keep (by (repeat' (first | (with_reducible exact Below.refl _ _) | (with_reducible assumption) | (with_reducible refine Below.next ?_ (by with_reducible assumption)) | (with_reducible refine Below.drew ?_) | (with_reducible refine Below.laid ?_ _) | (with_reducible refine Below.setCell ?_ ?_ _) | (with_reducible refine size_of ?_) | (with_reducible refine Nat.le_succ_of_le ?_) | go_size))))).mono ?_; rintro e w1 ⟨rfl, hb1⟩))
    go_ret
    exact ⟨rfl, by (repeat' (first | (with_reducible exact Below.refl _ _) | (with_reducible assumption) | (with_reducible refine Below.next ?_ (by with_reducible assumption)) | (with_reducible refine Below.drew ?_) | (with_reducible refine Below.laid ?_ _) | (with_reducible refine Below.setCell ?_ ?_ _) | (with_reducible refine size_of ?_) | (with_reducible refine Nat.le_succ_of_le ?_) | go_size))⟩
end Go.Proofs.YtnjamgmaclmlpaaDoor
