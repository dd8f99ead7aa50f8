/-
  THE WALK of vennlaw4.LeastMany.
-/
import Derived.Test.YtpkleioabinkkaaGreatDoorVennLowMany
import Derived.Test.YtpkleioabinkkaaGreatDoorLow
namespace Go.Proofs.YtpkleioabinkkaaGreatDoor
open Go.RowKit

theorem error_fiveL (w : World) (hg : EtOk w) : Calls Tryz.prog 13 #[.iface 86 (.int .i64 5), .int .i64 5] w (Keeps (.bool true) w) := by
  have h := vennsame_Error 5 5 w hg
  rw [errV_ne (show (5 : Int) ≠ 0 by decide)] at h
  exact h
set_option maxHeartbeats 8000000 in
set_option maxRecDepth 100000 in
theorem leastMany_walk (name n : Int) (w : World) (hk : KindsOk w) (het : EtOk w) :
    Calls Tryz.prog 7 #[.int .i64 name, .int .i64 n] w (Keeps (.bool true) w) := by
  have HK := Lib.hid hk
  have HET := Lib.hid het
  have HER := Lib.hid (fun W (hW : Below w.heap.size w W) => error_fiveL W (HET.out.keep hW))
  clear hk het
  by_cases hr : name < 0 ∨ 2 < name ∨ n < -20 ∨ 20 < n
  · have hq : name < 0 ∨ (¬ name < 0 ∧ 2 < name) ∨ (¬ name < 0 ∧ ¬ 2 < name ∧ n < -20) ∨ (¬ name < 0 ∧ ¬ 2 < name ∧ ¬ n < -20 ∧ 20 < n) := by omega
    clear hr
    rcases hq with g1 | ⟨g1, g2⟩ | ⟨g1, g2, g3⟩ | ⟨g1, g2, g3, g4⟩
    all_goals
      go_enter Tryz.func7, Tryz.ntmps7
      go_wp2
      go_ret
      exact ⟨rfl, Below.refl _ _⟩
  · have g1 : ¬ name < 0 := by omega
    have g2 : ¬ 2 < name := by omega
    have g3 : ¬ n < -20 := by omega
    have g4 : ¬ 20 < n := by omega
    have HAO := Lib.hid (fun m W => vennlaw4_atomOf name m W)
    have HLM := Lib.hid (Venn.least_many (name := name) (n := n) (by omega) (by omega))
    have HFM := Lib.hid (Venn.firm_many (name := name) (by omega))
    have HOF := Lib.hid (fun sa sc W (hW : Below w.heap.size w W) (ha : IsAtoms W sa (Venn.manyF name n).atoms) (hc : IsInts W sc (Venn.manyF name n).code) => least_Of sa sc (Venn.manyF name n).atoms (Venn.manyF name n).code W ha hc (HK.out.keep hW) (HET.out.keep hW))
    have HFI := Lib.hid (fun sa sc W (hW : Below w.heap.size w W) (ha : IsAtoms W sa (Venn.manyF name 0).atoms) (hc : IsInts W sc (Venn.manyF name 0).code) => least_Firm sa sc (Venn.manyF name 0).atoms (Venn.manyF name 0).code W ha hc (HK.out.keep hW) (HET.out.keep hW))
    rw [show (⟨(Venn.manyF name n).atoms, (Venn.manyF name n).code⟩ : Venn.Form) = Venn.manyF name n from rfl] at HOF
    rw [show (⟨(Venn.manyF name 0).atoms, (Venn.manyF name 0).code⟩ : Venn.Form) = Venn.manyF name 0 from rfl, HFM.out.1, HFM.out.2, errV_zero rfl] at HFI
    clear hr HFM
    generalize Venn.lowE (Venn.manyF name n) = LE at HOF HLM
    generalize Venn.lowV (Venn.manyF name n) = LV at HOF HLM
    by_cases h6 : 6 < n
    · obtain rfl := HLM.out.1 h6
      rw [errV_ne (show (5 : Int) ≠ 0 by decide)] at HOF
      clear HLM
      go_enter Tryz.func7, Tryz.ntmps7
      go_wp2_with fail
      refine (HAO.out n _).mono ?_
      rintro e w1 ⟨A, C, rfl, hb1, ha1, hc1⟩
      have HF := Lib.hid (HOF.out _ _ _ hb1 ha1 hc1)
      clear ha1 hc1
      go_wp2_with fail
      refine (HF.out).mono ?_
      rintro e w2 ⟨rfl, hb2⟩
      have hq2 := Below.next hb1 hb2
      go_wp2_with fail
      refine (HER.out _ hq2).mono ?_
      rintro e w3 ⟨rfl, hb3⟩
      have hq3 := Below.next hq2 hb3
      go_wp2
      go_ret
      exact ⟨rfl, hq3⟩
    · obtain ⟨he, hv⟩ := HLM.out.2 (by omega)
      rw [he, hv, errV_zero rfl] at HOF
      clear HLM he hv
      by_cases h0 : n < 0
      · rw [if_pos h0] at HOF
        go_enter Tryz.func7, Tryz.ntmps7
        go_wp2_with fail
        refine (HAO.out n _).mono ?_
        rintro e w1 ⟨A, C, rfl, hb1, ha1, hc1⟩
        have HF := Lib.hid (HOF.out _ _ _ hb1 ha1 hc1)
        clear ha1 hc1
        go_wp2_with fail
        refine (HF.out).mono ?_
        rintro e w2 ⟨rfl, hb2⟩
        have hq2 := Below.next hb1 hb2
        go_wp2_with fail
        refine (HAO.out 0 _).mono ?_
        rintro e w3 ⟨A3, C3, rfl, hb3, ha3, hc3⟩
        have hq3 := Below.next hq2 hb3
        have HF := Lib.hid (HFI.out _ _ _ hq3 ha3 hc3)
        clear ha3 hc3
        go_wp2_with fail
        refine (HF.out).mono ?_
        rintro e w4 ⟨rfl, hb4⟩
        have hq4 := Below.next hq3 hb4
        go_wp2
        go_ret
        exact ⟨rfl, hq4⟩
      · rw [if_neg h0] at HOF
        go_enter Tryz.func7, Tryz.ntmps7
        go_wp2_with fail
        refine (HAO.out n _).mono ?_
        rintro e w1 ⟨A, C, rfl, hb1, ha1, hc1⟩
        have HF := Lib.hid (HOF.out _ _ _ hb1 ha1 hc1)
        clear ha1 hc1
        go_wp2_with fail
        refine (HF.out).mono ?_
        rintro e w2 ⟨rfl, hb2⟩
        have hq2 := Below.next hb1 hb2
        go_wp2_with fail
        refine (HAO.out 0 _).mono ?_
        rintro e w3 ⟨A3, C3, rfl, hb3, ha3, hc3⟩
        have hq3 := Below.next hq2 hb3
        have HF := Lib.hid (HFI.out _ _ _ hq3 ha3 hc3)
        clear ha3 hc3
        go_wp2_with fail
        refine (HF.out).mono ?_
        rintro e w4 ⟨rfl, hb4⟩
        have hq4 := Below.next hq3 hb4
        go_wp2
        go_ret
        exact ⟨rfl, hq4⟩
end Go.Proofs.YtpkleioabinkkaaGreatDoor
