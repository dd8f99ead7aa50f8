/-
  THE WALK of vennlaw4.ModelMany.
-/
import Derived.Test.YtpkleioabinkkaaGreatDoorVennMany
import Derived.Test.YtpkleioabinkkaaGreatDoorModelS
import Derived.Test.YtpkleioabinkkaaGreatDoorFormG
import Derived.Test.YtpkleioabinkkaaGreatDoorLawF
import Derived.StillTailTactics
namespace Go.Proofs.YtpkleioabinkkaaGreatDoor
open Go.RowKit

set_option maxHeartbeats 400000 in
theorem vennlaw4_pow (n : Int) (w : World) (h : n ≤ 61) : Calls Tryz.prog 19 #[.int .i64 n] w (Pure (.int .i64 ((2 ^ n.toNat : Nat) : Int)) w) := by
  go_enter Tryz.func19, Tryz.ntmps19
  go_wp2
  go_loop [3, 4] (fun p i => ∃ k : Nat, k ≤ n.toNat ∧ i = .int .i64 k ∧ p = .int .i64 ((2 ^ k : Nat) : Int)) (fun _ i => n.toNat - (intOf i).toNat)
  case atStart => exact ⟨0, Nat.zero_le _, rfl, rfl⟩
  case round =>
    obtain ⟨k, hk, rfl, rfl⟩ := hrel
    have hp : 2 ^ k ≤ 2 ^ 61 := Nat.pow_le_pow_right (by omega) (by omega)
    have H2 := Lib.hid (Nat.pow_succ (n := 2) (m := k))
    have HN := Lib.hid (show ¬ (k : Int) < n → 2 ^ k = 2 ^ n.toNat from fun h => by rw [show k = n.toNat by omega])
    generalize 2 ^ k = P at hp H2 HN
    by_cases hlt : (k : Int) < n
    · go_wp2
      go_round
      case rel => exact ⟨k + 1, by omega, by go_num, by rw [H2.out]; go_num⟩
      case measure => simp [intOf]; omega
    · go_wp2
      go_ret
      exact ⟨ret_int (by rw [HN.out hlt]; simp), rfl⟩

theorem error_five (w : World) (hg : EtOk w) : Calls Tryz.prog 13 #[.iface 86 (.int .i64 5), .int .i64 5] w (Keeps (.bool true) w) := by
  have h := vennsame_Error 5 5 w hg
  rw [errV_ne (show (5 : Int) ≠ 0 by decide)] at h
  exact h
set_option maxHeartbeats 8000000 in
set_option maxRecDepth 100000 in
theorem modelMany_walk (name n : Int) (w : World) (hk : KindsOk w) (het : EtOk w) :
    Calls Tryz.prog 4 #[.int .i64 name, .int .i64 n] w (Keeps (.bool true) w) := by
  have HK := Lib.hid hk
  have HET := Lib.hid het
  have HER := Lib.hid (fun W (hW : Below w.heap.size w W) => error_five W (HET.out.keep hW))
  clear hk het
  by_cases hr : name < 0 ∨ 2 < name ∨ n < 1 ∨ 6 < n
  · have HNO := Lib.hid (model_Of (.slice none 0 0) (.slice none 0 0) [] [] 1 w (IsAtoms.nil _) (IsIntsNil _) HK.out)
    rw [Venn.none_five] at HNO
    generalize Venn.modelV ⟨[], []⟩ 1 = X at HNO
    obtain ⟨x0, x1, x2, x3⟩ := X
    have hq : name < 0 ∨ (¬ name < 0 ∧ 2 < name) ∨ (¬ name < 0 ∧ ¬ 2 < name ∧ n < 1) ∨ (¬ name < 0 ∧ ¬ 2 < name ∧ ¬ n < 1 ∧ 6 < n) := by omega
    clear hr
    rcases hq with g1 | ⟨g1, g2⟩ | ⟨g1, g2, g3⟩ | ⟨g1, g2, g3, g4⟩
    all_goals
      go_enter Tryz.func4, Tryz.ntmps4
      go_wp2_with fail
      refine (HNO.out).mono ?_
      rintro e w1 ⟨he, hb1⟩
      simp only [worldM] at he
      rw [errV_ne (show (5 : Int) ≠ 0 by decide)] at he
      subst he
      have hb2 : Below w.heap.size w (w1.alloc (.cells #[.int .i64 x0, .int .i64 x1, .int .i64 x2, .int .i64 x3] 28)) := by (repeat' (first | (with_reducible exact Below.refl _ _) | (with_reducible assumption) | (with_reducible refine Below.next ?_ (by with_reducible assumption)) | (with_reducible refine Below.drew ?_) | (with_reducible refine Below.laid ?_ _) | (with_reducible refine Below.setCell ?_ ?_ _) | (with_reducible refine size_of ?_) | (with_reducible refine Nat.le_succ_of_le ?_) | go_size))
      go_wp2_with fail
      refine (HER.out _ hb2).mono ?_
      rintro e w2 ⟨rfl, hb3⟩
      have hq3 := Below.next hb2 hb3
      go_wp2
      go_ret
      exact ⟨rfl, hq3⟩
  · obtain ⟨k, rfl⟩ : ∃ k : Fin 6, n = ((k.val : Nat) : Int) + 1 := ⟨⟨(n - 1).toNat, by omega⟩, by simp only; omega⟩
    have hk6 := k.isLt
    have hn3 : name = 0 ∨ name = 1 ∨ name = 2 := by omega
    obtain ⟨h1, h2, h3, h4, h5⟩ := Venn.many_name hn3 k
    have h64 : 2 ^ (k.val + 1) ≤ 64 := by have : ∀ k : Fin 6, 2 ^ (k.val + 1) ≤ 64 := by decide
                                          exact this k
    have HPOW := Lib.hid (fun W => vennlaw4_pow (((k.val : Nat) : Int) + 1) W (by omega))
    rw [show ((((k.val : Nat) : Int) + 1).toNat) = k.val + 1 by omega] at HPOW
    generalize ((2 ^ (k.val + 1) : Nat)) = P at h2 h64 HPOW
    obtain ⟨kv, hkv⟩ : ∃ kv : Nat, kv = k.val := ⟨_, rfl⟩
    rw [← hkv] at h1 h2 h3 h4 h5 hk6 HPOW hr ⊢
    clear hkv
    have HAO := Lib.hid (fun W => vennlaw4_atomOf name ((kv : Int) + 1) W)
    have HM1 := Lib.hid (fun sa sc W (hW : Below w.heap.size w W) (ha : IsAtoms W sa _) (hc : IsInts W sc _) => model_Of sa sc (Venn.manyF name ((kv : Nat) + 1)).atoms (Venn.manyF name ((kv : Nat) + 1)).code ((kv : Int) + 1) W ha hc (HK.out.keep hW))
    have HM2 := Lib.hid (fun sa sc W (hW : Below w.heap.size w W) (ha : IsAtoms W sa _) (hc : IsInts W sc _) => model_Of sa sc (Venn.manyF name ((kv : Nat) + 1)).atoms (Venn.manyF name ((kv : Nat) + 1)).code (kv : Int) W ha hc (HK.out.keep hW))
    have HM3 := Lib.hid (fun sa sc W (hW : Below w.heap.size w W) (ha : IsAtoms W sa _) (hc : IsInts W sc _) => model_Sure sa sc (Venn.manyF name ((kv : Nat) + 1)).atoms (Venn.manyF name ((kv : Nat) + 1)).code (kv : Int) W ha hc (HK.out.keep hW) (HET.out.keep hW))
    rw [show (⟨(Venn.manyF name ((kv : Nat) + 1)).atoms, (Venn.manyF name ((kv : Nat) + 1)).code⟩ : Venn.Form) = Venn.manyF name ((kv : Nat) + 1) from rfl] at HM1 HM2 HM3
    rw [h1] at HM1
    rw [h3] at HM2
    rw [h4, h5] at HM3
    have HFA := Lib.hid (show (Venn.manyF name ((kv : Nat) + 1)).atoms = [⟨3, [name], [], (kv : Int) + 1⟩] from rfl)
    have HFC := Lib.hid (show (Venn.manyF name ((kv : Nat) + 1)).code = [0] from rfl)
    generalize Venn.modelV (Venn.manyF name ((kv : Nat) + 1)) ((kv : Int) + 1) = X1 at HM1 h2
    generalize Venn.modelV (Venn.manyF name ((kv : Nat) + 1)) (kv : Int) = X2 at HM2
    rw [HFA.out, HFC.out] at HM1 HM2 HM3
    obtain ⟨t1, a1, b1, d1⟩ := X1
    obtain ⟨t2, a2, b2, d2⟩ := X2
    have g3 : ¬ (kv : Int) + 1 < 1 := by omega
    have g4 : ¬ 6 < (kv : Int) + 1 := by omega
    have e1 : IntKind.i64.wrap ((kv : Int) + 1 - 1) = (kv : Int) := by rw [show (kv : Int) + 1 - 1 = kv by omega]; exact IntWalk.i64_in _ (by omega)
    have e1' : IntKind.i64.wrap (kv : Int) = (kv : Int) := IntWalk.i64_in _ (by omega)
    clear h1 h3 h4 h5 HFA HFC hr
    rcases hn3 with rfl | rfl | rfl
    · have e2 : IntKind.i64.wrap (a1 + 1) = (P : Int) := by rw [show a1 + 1 = (P : Int) from h2]; exact IntWalk.i64_in _ (by omega)
      clear h2
      go_enter Tryz.func4, Tryz.ntmps4
      go_wp2_with fail
      refine (HAO.out _).mono ?_
      rintro e w1 ⟨A, C, rfl, hb1, ha1, hc1⟩
      have HA1 := Lib.hid ha1
      have HC1 := Lib.hid hc1
      clear ha1 hc1
      have BF1 := Lib.hid (Blk.new w1 25 #[.slice (some A) 1 1, .slice (some C) 1 1])
      have hb2 : Below w1.heap.size w1 (w1.alloc (.cells #[.slice (some A) 1 1, .slice (some C) 1 1] 25)) := by (repeat' (first | (with_reducible exact Below.refl _ _) | (with_reducible assumption) | (with_reducible refine Below.next ?_ (by with_reducible assumption)) | (with_reducible refine Below.drew ?_) | (with_reducible refine Below.laid ?_ _) | (with_reducible refine Below.setCell ?_ ?_ _) | (with_reducible refine size_of ?_) | (with_reducible refine Nat.le_succ_of_le ?_) | go_size))
      have hq2 := Below.next hb1 hb2
      have b0 := (BF1.out).cell 0
      have b1' := (BF1.out).cell 1
      simp at b0 b1'
      go_wp2_with fail
      refine (HM1.out _ _ _ hq2 (HA1.out.keep hb2) (HC1.out.keep hb2)).mono ?_
      rintro e w3 ⟨he, hb3⟩
      simp only [worldM] at he
      rw [errV_zero rfl] at he
      subst he
      clear b0 b1'
      have hb4 : Below w3.heap.size w3 (w3.alloc (.cells #[.int .i64 t1, .int .i64 a1, .int .i64 b1, .int .i64 d1] 28)) := by (repeat' (first | (with_reducible exact Below.refl _ _) | (with_reducible assumption) | (with_reducible refine Below.next ?_ (by with_reducible assumption)) | (with_reducible refine Below.drew ?_) | (with_reducible refine Below.laid ?_ _) | (with_reducible refine Below.setCell ?_ ?_ _) | (with_reducible refine size_of ?_) | (with_reducible refine Nat.le_succ_of_le ?_) | go_size))
      have hl4 := Below.next hb2 (Below.next hb3 hb4)
      have hq4 := Below.next hb1 hl4
      have BF4 := Lib.hid (((BF1.out).keep hb3).keep hb4)
      have BX4 := Lib.hid (Blk.new w3 28 #[.int .i64 t1, .int .i64 a1, .int .i64 b1, .int .i64 d1])
      clear hb3 hb4 hb2 hq2 BF1
      have b0 := (BF4.out).cell 0
      have b1' := (BF4.out).cell 1
      simp at b0 b1'
      go_wp2_with fail
      refine (HM2.out _ _ _ hq4 (HA1.out.keep hl4) (HC1.out.keep hl4)).mono ?_
      rintro e w5 ⟨he, hb5⟩
      simp only [worldM] at he
      rw [errV_ne (show (5 : Int) ≠ 0 by decide)] at he
      subst he
      clear b0 b1'
      have hb6 : Below w5.heap.size w5 (w5.alloc (.cells #[.int .i64 t2, .int .i64 a2, .int .i64 b2, .int .i64 d2] 28)) := by (repeat' (first | (with_reducible exact Below.refl _ _) | (with_reducible assumption) | (with_reducible refine Below.next ?_ (by with_reducible assumption)) | (with_reducible refine Below.drew ?_) | (with_reducible refine Below.laid ?_ _) | (with_reducible refine Below.setCell ?_ ?_ _) | (with_reducible refine size_of ?_) | (with_reducible refine Nat.le_succ_of_le ?_) | go_size))
      have hl6 := Below.next hl4 (Below.next hb5 hb6)
      have hq6 := Below.next hb1 hl6
      have BF6 := Lib.hid (((BF4.out).keep hb5).keep hb6)
      have BX6 := Lib.hid (((BX4.out).keep hb5).keep hb6)
      clear hb5 hb6 BF4 BX4 hq4 hl4
      have b0 := (BF6.out).cell 0
      have b1' := (BF6.out).cell 1
      simp at b0 b1'
      go_wp2_with fail
      refine (HM3.out _ _ _ hq6 (HA1.out.keep hl6) (HC1.out.keep hl6)).mono ?_
      rintro e w7 ⟨rfl, hb7⟩
      rw [errV_zero rfl]
      have BX7 := BX6.out.keep hb7
      have hq7 := Below.next hq6 hb7
      clear b0 b1' hl6 hq6 HA1 HC1 hb1 hb7
      obtain ⟨x0, x1, x2, x3⟩ := BX7.cells4
      have HE7 := Lib.hid (HER.out w7.drew hq7.drew)
      go_upto_region 8 with (fail)
      go_still_tail 14, (by kernel_rfl)
      first
        | still_call (Pure.still (HPOW.out _))
        | refine ⟨_, Pure.still (HPOW.out _), ?_⟩
      repeat still_step
      refine wpStill_nil ?_
      go_wp2_with fail
      refine (HE7.out).mono ?_
      rintro e w8 ⟨rfl, hb8⟩
      have hq8 : Below w.heap.size w w8 := Below.next hq7.drew hb8
      go_wp2
      go_ret
      exact ⟨rfl, hq8⟩
    · have e2 : IntKind.i64.wrap (b1 + 1) = (P : Int) := by rw [show b1 + 1 = (P : Int) from h2]; exact IntWalk.i64_in _ (by omega)
      clear h2
      go_enter Tryz.func4, Tryz.ntmps4
      go_wp2_with fail
      refine (HAO.out _).mono ?_
      rintro e w1 ⟨A, C, rfl, hb1, ha1, hc1⟩
      have HA1 := Lib.hid ha1
      have HC1 := Lib.hid hc1
      clear ha1 hc1
      have BF1 := Lib.hid (Blk.new w1 25 #[.slice (some A) 1 1, .slice (some C) 1 1])
      have hb2 : Below w1.heap.size w1 (w1.alloc (.cells #[.slice (some A) 1 1, .slice (some C) 1 1] 25)) := by (repeat' (first | (with_reducible exact Below.refl _ _) | (with_reducible assumption) | (with_reducible refine Below.next ?_ (by with_reducible assumption)) | (with_reducible refine Below.drew ?_) | (with_reducible refine Below.laid ?_ _) | (with_reducible refine Below.setCell ?_ ?_ _) | (with_reducible refine size_of ?_) | (with_reducible refine Nat.le_succ_of_le ?_) | go_size))
      have hq2 := Below.next hb1 hb2
      have b0 := (BF1.out).cell 0
      have b1' := (BF1.out).cell 1
      simp at b0 b1'
      go_wp2_with fail
      refine (HM1.out _ _ _ hq2 (HA1.out.keep hb2) (HC1.out.keep hb2)).mono ?_
      rintro e w3 ⟨he, hb3⟩
      simp only [worldM] at he
      rw [errV_zero rfl] at he
      subst he
      clear b0 b1'
      have hb4 : Below w3.heap.size w3 (w3.alloc (.cells #[.int .i64 t1, .int .i64 a1, .int .i64 b1, .int .i64 d1] 28)) := by (repeat' (first | (with_reducible exact Below.refl _ _) | (with_reducible assumption) | (with_reducible refine Below.next ?_ (by with_reducible assumption)) | (with_reducible refine Below.drew ?_) | (with_reducible refine Below.laid ?_ _) | (with_reducible refine Below.setCell ?_ ?_ _) | (with_reducible refine size_of ?_) | (with_reducible refine Nat.le_succ_of_le ?_) | go_size))
      have hl4 := Below.next hb2 (Below.next hb3 hb4)
      have hq4 := Below.next hb1 hl4
      have BF4 := Lib.hid (((BF1.out).keep hb3).keep hb4)
      have BX4 := Lib.hid (Blk.new w3 28 #[.int .i64 t1, .int .i64 a1, .int .i64 b1, .int .i64 d1])
      clear hb3 hb4 hb2 hq2 BF1
      have b0 := (BF4.out).cell 0
      have b1' := (BF4.out).cell 1
      simp at b0 b1'
      go_wp2_with fail
      refine (HM2.out _ _ _ hq4 (HA1.out.keep hl4) (HC1.out.keep hl4)).mono ?_
      rintro e w5 ⟨he, hb5⟩
      simp only [worldM] at he
      rw [errV_ne (show (5 : Int) ≠ 0 by decide)] at he
      subst he
      clear b0 b1'
      have hb6 : Below w5.heap.size w5 (w5.alloc (.cells #[.int .i64 t2, .int .i64 a2, .int .i64 b2, .int .i64 d2] 28)) := by (repeat' (first | (with_reducible exact Below.refl _ _) | (with_reducible assumption) | (with_reducible refine Below.next ?_ (by with_reducible assumption)) | (with_reducible refine Below.drew ?_) | (with_reducible refine Below.laid ?_ _) | (with_reducible refine Below.setCell ?_ ?_ _) | (with_reducible refine size_of ?_) | (with_reducible refine Nat.le_succ_of_le ?_) | go_size))
      have hl6 := Below.next hl4 (Below.next hb5 hb6)
      have hq6 := Below.next hb1 hl6
      have BF6 := Lib.hid (((BF4.out).keep hb5).keep hb6)
      have BX6 := Lib.hid (((BX4.out).keep hb5).keep hb6)
      clear hb5 hb6 BF4 BX4 hq4 hl4
      have b0 := (BF6.out).cell 0
      have b1' := (BF6.out).cell 1
      simp at b0 b1'
      go_wp2_with fail
      refine (HM3.out _ _ _ hq6 (HA1.out.keep hl6) (HC1.out.keep hl6)).mono ?_
      rintro e w7 ⟨rfl, hb7⟩
      rw [errV_zero rfl]
      have BX7 := BX6.out.keep hb7
      have hq7 := Below.next hq6 hb7
      clear b0 b1' hl6 hq6 HA1 HC1 hb1 hb7
      obtain ⟨x0, x1, x2, x3⟩ := BX7.cells4
      have HE7 := Lib.hid (HER.out w7.drew hq7.drew)
      go_upto_region 8 with (fail)
      go_still_tail 14, (by kernel_rfl)
      first
        | still_call (Pure.still (HPOW.out _))
        | refine ⟨_, Pure.still (HPOW.out _), ?_⟩
      repeat still_step
      refine wpStill_nil ?_
      go_wp2_with fail
      refine (HE7.out).mono ?_
      rintro e w8 ⟨rfl, hb8⟩
      have hq8 : Below w.heap.size w w8 := Below.next hq7.drew hb8
      go_wp2
      go_ret
      exact ⟨rfl, hq8⟩
    · have e2 : IntKind.i64.wrap (d1 + 1) = (P : Int) := by rw [show d1 + 1 = (P : Int) from h2]; exact IntWalk.i64_in _ (by omega)
      clear h2
      go_enter Tryz.func4, Tryz.ntmps4
      go_wp2_with fail
      refine (HAO.out _).mono ?_
      rintro e w1 ⟨A, C, rfl, hb1, ha1, hc1⟩
      have HA1 := Lib.hid ha1
      have HC1 := Lib.hid hc1
      clear ha1 hc1
      have BF1 := Lib.hid (Blk.new w1 25 #[.slice (some A) 1 1, .slice (some C) 1 1])
      have hb2 : Below w1.heap.size w1 (w1.alloc (.cells #[.slice (some A) 1 1, .slice (some C) 1 1] 25)) := by (repeat' (first | (with_reducible exact Below.refl _ _) | (with_reducible assumption) | (with_reducible refine Below.next ?_ (by with_reducible assumption)) | (with_reducible refine Below.drew ?_) | (with_reducible refine Below.laid ?_ _) | (with_reducible refine Below.setCell ?_ ?_ _) | (with_reducible refine size_of ?_) | (with_reducible refine Nat.le_succ_of_le ?_) | go_size))
      have hq2 := Below.next hb1 hb2
      have b0 := (BF1.out).cell 0
      have b1' := (BF1.out).cell 1
      simp at b0 b1'
      go_wp2_with fail
      refine (HM1.out _ _ _ hq2 (HA1.out.keep hb2) (HC1.out.keep hb2)).mono ?_
      rintro e w3 ⟨he, hb3⟩
      simp only [worldM] at he
      rw [errV_zero rfl] at he
      subst he
      clear b0 b1'
      have hb4 : Below w3.heap.size w3 (w3.alloc (.cells #[.int .i64 t1, .int .i64 a1, .int .i64 b1, .int .i64 d1] 28)) := by (repeat' (first | (with_reducible exact Below.refl _ _) | (with_reducible assumption) | (with_reducible refine Below.next ?_ (by with_reducible assumption)) | (with_reducible refine Below.drew ?_) | (with_reducible refine Below.laid ?_ _) | (with_reducible refine Below.setCell ?_ ?_ _) | (with_reducible refine size_of ?_) | (with_reducible refine Nat.le_succ_of_le ?_) | go_size))
      have hl4 := Below.next hb2 (Below.next hb3 hb4)
      have hq4 := Below.next hb1 hl4
      have BF4 := Lib.hid (((BF1.out).keep hb3).keep hb4)
      have BX4 := Lib.hid (Blk.new w3 28 #[.int .i64 t1, .int .i64 a1, .int .i64 b1, .int .i64 d1])
      clear hb3 hb4 hb2 hq2 BF1
      have b0 := (BF4.out).cell 0
      have b1' := (BF4.out).cell 1
      simp at b0 b1'
      go_wp2_with fail
      refine (HM2.out _ _ _ hq4 (HA1.out.keep hl4) (HC1.out.keep hl4)).mono ?_
      rintro e w5 ⟨he, hb5⟩
      simp only [worldM] at he
      rw [errV_ne (show (5 : Int) ≠ 0 by decide)] at he
      subst he
      clear b0 b1'
      have hb6 : Below w5.heap.size w5 (w5.alloc (.cells #[.int .i64 t2, .int .i64 a2, .int .i64 b2, .int .i64 d2] 28)) := by (repeat' (first | (with_reducible exact Below.refl _ _) | (with_reducible assumption) | (with_reducible refine Below.next ?_ (by with_reducible assumption)) | (with_reducible refine Below.drew ?_) | (with_reducible refine Below.laid ?_ _) | (with_reducible refine Below.setCell ?_ ?_ _) | (with_reducible refine size_of ?_) | (with_reducible refine Nat.le_succ_of_le ?_) | go_size))
      have hl6 := Below.next hl4 (Below.next hb5 hb6)
      have hq6 := Below.next hb1 hl6
      have BF6 := Lib.hid (((BF4.out).keep hb5).keep hb6)
      have BX6 := Lib.hid (((BX4.out).keep hb5).keep hb6)
      clear hb5 hb6 BF4 BX4 hq4 hl4
      have b0 := (BF6.out).cell 0
      have b1' := (BF6.out).cell 1
      simp at b0 b1'
      go_wp2_with fail
      refine (HM3.out _ _ _ hq6 (HA1.out.keep hl6) (HC1.out.keep hl6)).mono ?_
      rintro e w7 ⟨rfl, hb7⟩
      rw [errV_zero rfl]
      have BX7 := BX6.out.keep hb7
      have hq7 := Below.next hq6 hb7
      clear b0 b1' hl6 hq6 HA1 HC1 hb1 hb7
      obtain ⟨x0, x1, x2, x3⟩ := BX7.cells4
      have HE7 := Lib.hid (HER.out w7.drew hq7.drew)
      go_upto_region 8 with (fail)
      go_still_tail 14, (by kernel_rfl)
      first
        | still_call (Pure.still (HPOW.out _))
        | refine ⟨_, Pure.still (HPOW.out _), ?_⟩
      repeat still_step
      refine wpStill_nil ?_
      go_wp2_with fail
      refine (HE7.out).mono ?_
      rintro e w8 ⟨rfl, hb8⟩
      have hq8 : Below w.heap.size w w8 := Below.next hq7.drew hb8
      go_wp2
      go_ret
      exact ⟨rfl, hq8⟩
end Go.Proofs.YtpkleioabinkkaaGreatDoor
