/-
  THE WALKS of the reference's sets: Power, Has, Size, Set, Do; and of sets.Has.
-/
import Derived.Test.YtlpfbdejiifbpaaGreatDoorSetsT
import Derived.Test.YtlpfbdejiifbpaaGreatDoorVennP1
namespace Go.Proofs.YtlpfbdejiifbpaaGreatDoor
open Go.RowKit

theorem wrap64_small {x : Int} (h0 : 0 ≤ x) (h : x < 9223372036854775808) : wrap64 x = x := by
  unfold wrap64
  omega

set_option maxHeartbeats 400000 in
theorem ref_Power (n : Int) (w : World) (h : n ≤ 61) : Calls Tryz.prog 69 #[.int .i64 n] w (Pure (.int .i64 ((2 ^ n.toNat : Nat) : Int)) w) := by
  go_enter Tryz.func69, Tryz.ntmps69
  go_wp2
  go_loop [3, 4] (fun p i => ∃ k : Nat, k ≤ n.toNat ∧ i = .int .i64 k ∧ p = .int .i64 ((2 ^ k : Nat) : Int)) (fun _ i => n.toNat - (intOf i).toNat)
  case atStart => exact ⟨0, Nat.zero_le _, rfl, rfl⟩
  case round =>
    obtain ⟨k, hk, rfl, rfl⟩ := hrel
    have hp : 2 ^ k ≤ 2 ^ 61 := Nat.pow_le_pow_right (by omega) (by omega)
    have H2 := Lib.hid (Nat.pow_succ (n := 2) (m := k))
    have HN := Lib.hid (show ¬ (k : Int) < n → 2 ^ k = 2 ^ n.toNat from fun h => by rw [show k = n.toNat by omega])
    generalize 2 ^ k = P at hp H2 HN
    by_cases hlt : (k : Int) < n
    · go_wp2
      go_round
      case rel => exact ⟨k + 1, by omega, by go_num, by rw [H2.out]; go_num⟩
      case measure => simp [intOf]; omega
    · go_wp2
      go_ret
      exact ⟨ret_int (by rw [HN.out hlt]; simp), rfl⟩

theorem has_small : ∀ (s : Fin 64) (i : Fin 6), ((((s.val : Nat) : Int) / ((2 ^ ((i.val : Nat) : Int).toNat : Nat) : Int)).tmod 2 == 1) = Venn.bit ((s.val : Nat) : Int) ((i.val : Nat) : Int).toNat := by decide +kernel

set_option maxHeartbeats 400000 in
theorem ref_Has (s i : Int) (w : World) (hs : 0 ≤ s ∧ s ≤ 63) (hi : 0 ≤ i ∧ i ≤ 5) : Calls Tryz.prog 71 #[.int .i64 s, .int .i64 i] w (Pure (.bool (Venn.bit s i.toNat)) w) := by
  have HP := Lib.hid (ref_Power i w (by omega))
  have hp0 : 0 < 2 ^ i.toNat := Nat.two_pow_pos _
  have hp1 : 2 ^ i.toNat ≤ 2 ^ 5 := Nat.pow_le_pow_right (by omega) (by omega)
  have HD := Lib.hid (show s.tdiv ((2 ^ i.toNat : Nat) : Int) = s / ((2 ^ i.toNat : Nat) : Int) from Int.tdiv_eq_ediv_of_nonneg hs.1)
  have H : ((s / ((2 ^ i.toNat : Nat) : Int)).tmod 2 == 1) = Venn.bit s i.toNat := by
    obtain ⟨S, rfl⟩ : ∃ S : Fin 64, s = ((S.val : Nat) : Int) := ⟨⟨s.toNat, by omega⟩, by simp; omega⟩
    obtain ⟨I, rfl⟩ : ∃ I : Fin 6, i = ((I.val : Nat) : Int) := ⟨⟨i.toNat, by omega⟩, by simp; omega⟩
    exact has_small S I
  have HH := Lib.hid H; clear H
  generalize 2 ^ i.toNat = P at HP hp0 hp1 HD HH
  go_enter Tryz.func71, Tryz.ntmps71
  go_wp2_with (go_at_call 69; refine (HP.out).mono ?_; rintro e w' ⟨rfl, rfl⟩)
  go_ret
  exact ⟨ret_bool HH.out, rfl⟩

theorem size_step (s : Int) (k : Nat) : (((List.range (k + 1)).filter fun i => Venn.bit s i).length : Int) = ((List.range k).filter fun i => Venn.bit s i).length + (if Venn.bit s k = true then 1 else 0) := by
  rw [List.range_succ, List.filter_append]
  by_cases h : Venn.bit s k = true <;> simp [h]

set_option maxHeartbeats 400000 in
theorem ref_Size (s : Int) (w : World) (hs : 0 ≤ s ∧ s ≤ 63) : Calls Tryz.prog 41 #[.int .i64 s] w (Pure (.int .i64 (Venn.many s)) w) := by
  go_enter Tryz.func41, Tryz.ntmps41
  go_wp2
  go_loop [3, 4] (fun n i => ∃ k : Nat, k ≤ 6 ∧ i = .int .i64 k ∧ n = .int .i64 (((List.range k).filter fun i => Venn.bit s i).length : Int)) (fun _ i => 6 - (intOf i).toNat)
  case atStart => exact ⟨0, Nat.zero_le _, rfl, rfl⟩
  case round =>
    obtain ⟨k, hk, rfl, rfl⟩ := hrel
    have HS := Lib.hid (size_step s k)
    have hl := List.length_filter_le (fun i => Venn.bit s i) (List.range k)
    rw [List.length_range] at hl
    have HK := Lib.hid (show k = 6 → ((List.range k).filter fun i => Venn.bit s i).length = Venn.many s from fun h => by rw [h]; rfl)
    generalize ((List.range k).filter fun i => Venn.bit s i).length = L at HS hl HK
    by_cases hlt : (k : Int) < 6
    · rcases hb : Venn.bit s k with _ | _
      all_goals
        have HB := Lib.hid hb
        go_wp2_with (go_at_call 71; refine (ref_Has _ _ _ hs (by omega)).mono ?_; rintro e w' ⟨rfl, rfl⟩; rw [Int.toNat_natCast, HB.out])
        go_round
        case rel => exact ⟨k + 1, by omega, by go_num, by rw [HS.out, HB.out]; simp⟩
        case measure => simp [intOf]; omega
    · go_wp2
      go_ret
      exact ⟨ret_int (HK.out (by omega)), rfl⟩

set_option maxHeartbeats 400000 in
theorem ref_Set (u s : Int) (w : World) : Calls Tryz.prog 39 #[.int .i64 u, .int .i64 s] w (Pure (.int .i64 (Venn.setChk u s)) w) := by
  by_cases hu : u < 0
  · rw [show Venn.setChk u s = 1 by simp [Venn.setChk, Venn.things]; omega]
    go_enter Tryz.func39, Tryz.ntmps39
    go_wp2
    go_ret
    exact ⟨rfl, rfl⟩
  by_cases hu6 : 6 < u
  · rw [show Venn.setChk u s = 1 by simp [Venn.setChk, Venn.things]; omega]
    go_enter Tryz.func39, Tryz.ntmps39
    go_wp2
    go_ret
    exact ⟨rfl, rfl⟩
  by_cases hs : s < 0
  · rw [show Venn.setChk u s = 1 by simp [Venn.setChk, Venn.rightS]; omega]
    go_enter Tryz.func39, Tryz.ntmps39
    go_wp2
    go_ret
    exact ⟨rfl, rfl⟩
  have hx : Venn.setChk u s = if ((2 ^ u.toNat : Nat) : Int) ≤ s then 1 else 0 := by
    rw [Venn.setChk, Venn.things, Venn.rightS, Venn.allS]
    have := Nat.two_pow_pos u.toNat
    by_cases h : ((2 ^ u.toNat : Nat) : Int) ≤ s
    · rw [if_pos h, if_neg]; simp only [Bool.and_eq_true, decide_eq_true_eq]; omega
    · rw [if_neg h, if_pos]; simp only [Bool.and_eq_true, decide_eq_true_eq]; omega
  have HP := Lib.hid (ref_Power u w (by omega))
  rw [hx]; clear hx
  generalize ((2 ^ u.toNat : Nat) : Int) = P at HP
  by_cases hP : P ≤ s
  · rw [if_pos hP]
    go_enter Tryz.func39, Tryz.ntmps39
    go_wp2_with (go_at_call 69; refine (HP.out).mono ?_; rintro e w' ⟨rfl, rfl⟩)
    go_ret
    exact ⟨rfl, rfl⟩
  · rw [if_neg hP]
    go_enter Tryz.func39, Tryz.ntmps39
    go_wp2_with (go_at_call 69; refine (HP.out).mono ?_; rintro e w' ⟨rfl, rfl⟩)
    go_ret
    exact ⟨rfl, rfl⟩
theorem andNot_testBit (a b i : Nat) : (Venn.andNot a b).testBit i = (a.testBit i && !b.testBit i) := by
  unfold Venn.andNot
  rw [Nat.testBit_xor, Nat.testBit_and]
  cases a.testBit i <;> cases b.testBit i <;> rfl
theorem allS_testBit {u : Int} (h : Venn.things u = true) {k : Nat} (hk : (k : Int) < u) : (Venn.allS u).toNat.testBit k = true := by
  have h' : 0 ≤ u ∧ u ≤ 6 := by simpa [Venn.things] using h
  have : (Venn.allS u).toNat = 2 ^ u.toNat - 1 := by unfold Venn.allS; omega
  rw [this, Nat.testBit_two_pow_sub_one]
  simp; omega
/-- What is in, by what is done. -/
def inV (what : Int) (x y : Bool) : Bool := if what = 5 then x || y else if what = 6 then x && y else if what = 7 then x && !y else !x
theorem setOf_bit {what u a b : Int} (hu : Venn.things u = true) {k : Nat} (hk : (k : Int) < u) : (Venn.setOf what u a b).toNat.testBit k = inV what (Venn.bit a k) (Venn.bit b k) := by
  unfold Venn.setOf inV Venn.bit
  split
  · simp
  split
  · simp
  split
  · simp only [Int.toNat_natCast, andNot_testBit]
  · simp only [Int.toNat_natCast, andNot_testBit, allS_testBit hu hk, Bool.true_and]
theorem mod_step (n k : Nat) : n % 2 ^ (k + 1) = n % 2 ^ k + (if n.testBit k = true then 2 ^ k else 0) := by
  rw [Nat.mod_pow_succ, Nat.testBit_eq_decide_div_mod_eq]
  rcases Nat.mod_two_eq_zero_or_one (n / 2 ^ k) with h | h <;> simp [h]

set_option maxHeartbeats 1000000 in
set_option maxRecDepth 100000 in
theorem ref_Do (what u a b : Int) (w : World) (hw : 5 ≤ what ∧ what ≤ 8) (ha : Venn.setChk u a = 0) (hb : Venn.setChk u b = 0) :
    Calls Tryz.prog 42 #[.int .i64 what, .int .i64 u, .int .i64 a, .int .i64 b] w (Pure (.int .i64 (Venn.setOf what u a b)) w) := by
  have hu := (setChk_ok ha).1
  have ha6 := setChk_63 ha
  have hb6 := setChk_63 hb
  have hr := Venn.setChk_iff.1 (Venn.setOf_right (what := what) ha hb)
  have h6 : 0 ≤ u ∧ u ≤ 6 := hr.1
  have hpu : 2 ^ u.toNat ≤ 2 ^ 6 := Nat.pow_le_pow_right (by omega) (by omega)
  have HB := Lib.hid (fun (k : Nat) (hk : (k : Int) < u) => setOf_bit (what := what) (a := a) (b := b) hu hk)
  have HE := Lib.hid (show ((Venn.setOf what u a b).toNat % 2 ^ u.toNat : Nat) = Venn.setOf what u a b from by rw [Nat.mod_eq_of_lt hr.2.2]; omega)
  generalize Venn.setOf what u a b = R at HB HE hr
  have hR : R.toNat < 64 := by omega
  clear ha hb hr hu
  generalize R.toNat = r at HB HE hR
  go_enter Tryz.func42, Tryz.ntmps42
  go_wp2
  go_loop [9, 10] (fun s i => ∃ k : Nat, k ≤ u.toNat ∧ i = .int .i64 k ∧ s = .int .i64 ((r % 2 ^ k : Nat) : Int)) (fun _ i => u.toNat - (intOf i).toNat)
  case atStart => exact ⟨0, Nat.zero_le _, rfl, by simp [Nat.mod_one]⟩
  case round =>
    obtain ⟨k, hk, rfl, rfl⟩ := hrel
    by_cases hlt : (k : Int) < u
    · have HX := Lib.hid (HB.out k hlt)
      have HM := Lib.hid (mod_step r k)
      have HP := Lib.hid (ref_Power (k : Int))
      have h1 : r % 2 ^ k ≤ r := Nat.mod_le _ _
      have h2 : 2 ^ k ≤ 2 ^ 6 := Nat.pow_le_pow_right (by omega) (by omega)
      rw [Int.toNat_natCast] at HP
      generalize 2 ^ k = P at HP h1 h2 HM
      generalize r % P = m at h1 HM
      rcases hx : Venn.bit a k with _ | _ <;> rcases hy : Venn.bit b k with _ | _
      all_goals
        have X := Lib.hid hx
        have Y := Lib.hid hy
        clear hx hy
        rw [X.out, Y.out] at HX
        obtain rfl | rfl | rfl | rfl : what = 5 ∨ what = 6 ∨ what = 7 ∨ what = 8 := by omega
      all_goals
        go_wp2_with (first
          | (go_at_call 71; refine (ref_Has _ _ _ (by assumption) (by omega)).mono ?_; rintro e w' ⟨rfl, rfl⟩; simp only [Int.toNat_natCast, X.out, Y.out])
          | (go_at_call 69; refine (HP.out _ (by omega)).mono ?_; rintro e w' ⟨rfl, rfl⟩))
        go_round
        case rel => exact ⟨k + 1, by omega, by go_num, by rw [HM.out, HX.out]; simp [inV]⟩
        case measure => simp [intOf]; omega
    · go_wp2
      go_ret
      exact ⟨ret_int (by rw [← HE.out, show k = u.toNat by omega]; simp), rfl⟩

theorem shr_small : ∀ (s : Fin 64) (i : Fin 6), (bits .and .i64 (((s.val : Nat) : Int) / 2 ^ ((i.val : Nat) : Int).toNat) 1 == 1) = Venn.bit ((s.val : Nat) : Int) ((i.val : Nat) : Int).toNat := by decide +kernel

end Go.Proofs.YtlpfbdejiifbpaaGreatDoor
