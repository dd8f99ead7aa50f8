/-
  THE WALK of vennlaw3.LogStops.
-/
import Derived.Test.YtcloppcekbdbaaaGreatDoorStopsSay
import Derived.Deep.DeepCutAuto
import Derived.Deep.CutBlock
namespace Go.Proofs.YtcloppcekbdbaaaGreatDoor
open Go.RowKit

set_option maxHeartbeats 8000000 in
set_option maxRecDepth 100000 in
theorem logStops_walk (after many keep : Int) (w : World) (hk : KindsOk w) (het : EtOk w) (htab : TabOk w) :
    Calls Tryz.prog 5 #[.int .i64 after, .int .i64 many, .int .i64 keep] w (Keeps (.bool true) w) := by
  have HK := Lib.hid hk
  have HET := Lib.hid het
  have HTB := Lib.hid htab
  have HN := Lib.hid (logG_New 1 w (by decide))
  clear hk het htab
  by_cases hbad : after < 0 ∨ (¬ after < 0 ∧ 5 < after) ∨ (¬ after < 0 ∧ ¬ 5 < after ∧ many < 0) ∨ (¬ after < 0 ∧ ¬ 5 < after ∧ ¬ many < 0 ∧ 5 < many)
  · rcases hbad with h1 | ⟨h1, h2⟩ | ⟨h1, h2, h3⟩ | ⟨h1, h2, h3, h4⟩
    all_goals
      go_enter Tryz.func5, Tryz.ntmps5
      go_wp2_with fail
      refine (HN.out).mono ?_
      rintro e w1 ⟨rfl, hb1, -⟩
      go_wp2
      go_ret
      exact ⟨rfl, hb1⟩
  · obtain ⟨h1, h2, h3, h4⟩ : ¬ after < 0 ∧ ¬ 5 < after ∧ ¬ many < 0 ∧ ¬ 5 < many := by
      refine ⟨fun h => hbad (.inl h), fun h => ?_, fun h => ?_, fun h => ?_⟩ <;> (apply hbad; omega)
    clear hbad
    obtain ⟨Af, rfl⟩ : ∃ Af : Nat, after = (Af : Int) := ⟨after.toNat, by omega⟩
    obtain ⟨Mn, rfl⟩ : ∃ Mn : Nat, many = (Mn : Int) := ⟨many.toNat, by omega⟩
    have HR := Lib.hid (show Af ≤ 5 ∧ Mn ≤ 5 by omega)
    obtain ⟨j, hj⟩ : ∃ j, j = w.heap.size := ⟨_, rfl⟩
    rw [← hj] at HN
    have HJ := Lib.hid hj
    clear hj
    go_enter Tryz.func5, Tryz.ntmps5
    go_wp2_with fail
    refine (HN.out).mono ?_
    rintro e w1 ⟨rfl, hb1, hlog⟩
    rw [HJ.out] at hb1
    have HL1 := Lib.hid hlog
    have HJ1 := Lib.hid (show j < w1.heap.size by obtain ⟨A, c, p, hB, -⟩ := hlog; exact hB.lt)
    clear hlog HN
    go_upto_region 5 with (fail)
    have hb2 : Below w.heap.size w ((w1.alloc (.cells #[.int .i64 1] 3)).alloc (.cells #[.int .i64 4, .slice (some ⟨w1.heap.size, 0, none⟩) 1 1, .slice none 0 0, .int .i64 1] 32)) := (Below.laid (Below.laid hb1 _) _)
    have B0 : Blk ((w1.alloc (.cells #[.int .i64 1] 3)).alloc (.cells #[.int .i64 4, .slice (some ⟨w1.heap.size, 0, none⟩) 1 1, .slice none 0 0, .int .i64 1] 32)) w1.heap.size 3 #[.int .i64 1] := (Blk.new w1 _ _).alloc _
    have B1 : Blk ((w1.alloc (.cells #[.int .i64 1] 3)).alloc (.cells #[.int .i64 4, .slice (some ⟨w1.heap.size, 0, none⟩) 1 1, .slice none 0 0, .int .i64 1] 32)) (w1.heap.size + 1) 32 #[.int .i64 4, .slice (some ⟨w1.heap.size, 0, none⟩) 1 1, .slice none 0 0, .int .i64 1] := Blk.newAt (by simp) _ _
    have hl2 : LogG ((w1.alloc (.cells #[.int .i64 1] 3)).alloc (.cells #[.int .i64 4, .slice (some ⟨w1.heap.size, 0, none⟩) 1 1, .slice none 0 0, .int .i64 1] 32)) j 1 [] ⟨#[]⟩ 0 (-1) false := HL1.out.keep (Below.laid (Below.laid (Below.refl _ _) _) _)
    clear HL1 hb1
    revert hb2 B0 B1 hl2
    obtain ⟨b0, hb0⟩ : ∃ b0, b0 = w1.heap.size := ⟨_, rfl⟩
    rw [← hb0]
    have hjb : j < b0 := by rw [hb0]; exact HJ1.out
    generalize (w1.alloc (.cells #[.int .i64 1] 3)).alloc (.cells #[.int .i64 4, .slice (some ⟨b0, 0, none⟩) 1 1, .slice none 0 0, .int .i64 1] 32) = w2
    intro hb2 B0 B1 hl2
    have HJB := Lib.hid hjb
    clear hjb hb0 HJ1
    have HF := Lib.hid (logG_Fail j 1 [] ⟨#[]⟩ 0 (-1) false (Af : Int) w2 hl2)
    clear hl2
    go_wp2_with fail
    refine (HF.out).mono ?_
    rintro e w3 ⟨rfl, hbt, hlog⟩
    rw [show max (-1) (Af : Int) = (Af : Int) by omega] at hlog
    have H0 := Lib.hid (show StopSt w3 j Af 0 from .inl ⟨Nat.zero_le _, by rw [show (Af : Int) - ((0 : Nat) : Int) = (Af : Int) by omega]; exact hlog⟩)
    have hq3 : Below w.heap.size w w3 := hb2.trans (hbt.below hb2.size (fun b h => by have := HJ.out; omega))
    have HB0 := Lib.hid (B0.but hbt (by have := HJB.out; omega))
    have HB1 := Lib.hid (B1.but hbt (by have := HJB.out; omega))
    have HQ3 := Lib.hid hq3
    -- what holds in every later world
    have HW := Lib.hid (fun W (hW : But (fun b => b = j) w3 W) => show Below w.heap.size w W from HQ3.out.trans (hW.below HQ3.out.size (fun b h => by have := HJ.out; omega)))
    have HA := Lib.hid (fun W (hW : But (fun b => b = j) w3 W) => show Blk W (b0 + 1) 32 #[.int .i64 4, .slice (some ⟨b0, 0, none⟩) 1 1, .slice none 0 0, .int .i64 1] from HB1.out.but hW (by have := HJB.out; omega))
    have HI := Lib.hid (fun W (hW : But (fun b => b = j) w3 W) => show IsInts W (.slice (some ⟨b0, 0, none⟩) 1 1) [1] from IsInts.of_blk1 (HB0.out.but hW (by have := HJB.out; omega)))
    have H66 := Lib.hid (fun W (hW : But (fun b => b = j) w3 W) => err_66 W (HET.out.keep (HW.out W hW)))
    have H61 := Lib.hid (fun W (hW : But (fun b => b = j) w3 W) => err_61 W (HET.out.keep (HW.out W hW)))
    have H16 := Lib.hid (fun W (hW : But (fun b => b = j) w3 W) => err_16 W (HET.out.keep (HW.out W hW)))
    have H11 := Lib.hid (fun W (hW : But (fun b => b = j) w3 W) => err_11 W (HET.out.keep (HW.out W hW)))
    have H06 := Lib.hid (fun W (hW : But (fun b => b = j) w3 W) => err_06 W (HET.out.keep (HW.out W hW)))
    clear hbt hlog hb2 B0 B1 hq3 HF
    go_wp2
    go_loopw [10, 11] (fun s i wr => ∃ n : Nat, n ≤ Mn ∧ s = .int .i64 n ∧ i = .int .i64 n ∧ But (fun b => b = j) w3 wr ∧ StopSt wr j Af n) (fun _ i _ => Mn - (intOf i).toNat)
    case atStart => exact ⟨0, Nat.zero_le _, rfl, rfl, But.refl _ _, H0.out⟩
    case round =>
      obtain ⟨n, hn, rfl, rfl, hbr, hst⟩ := hrel
      obtain ⟨wo, rfl⟩ : ∃ wo : World, wo = wr := ⟨_, rfl⟩
      have HBR := Lib.hid hbr
      have HST := Lib.hid hst
      have hn5 : n ≤ 5 := by have := HR.out; omega
      have hnw : IntKind.i64.wrap ((n : Int) + 1) = (n : Int) + 1 := IntWalk.i64_in _ (by omega)
      clear hbr hst
      by_cases hlt : n < Mn
      · have hlt' : (n : Int) < (Mn : Int) := by omega
        have hst := HST.out
        rcases Nat.lt_trichotomy n Af with hna | hna | hna
        · -- before
          have hL := (hst.resolve_right (fun h => by omega)).2
          clear hst HST
          have HS0 := Lib.hid (stops_zero j n 0 _ wo hL hn5 (HK.out.keep (HW.out _ HBR.out)) (HTB.out.keep (HW.out _ HBR.out)) (by omega) (by have := HR.out; omega))
          clear hL
          have g1 : ¬ (Af : Int) < (n : Int) := by omega
          have g2 : (n : Int) ≤ (Af : Int) := by omega
          have g3 : ((n : Int) == (Af : Int)) = false := beq_eq_false_iff_ne.2 (by omega)
          have g4 : (n : Int) < (Af : Int) := by omega
          go_wp2_with fail
          refine (HS0.out).mono ?_
          rintro e w4 ⟨rfl, hb4, hL4⟩
          have hb4 := HBR.out.trans hb4
          have HS1 := Lib.hid (stops_more j n 0 _ _ w4 hL4 (HI.out _ hb4) hn5 (HK.out.keep (HW.out _ hb4)) (HTB.out.keep (HW.out _ hb4)) (by omega) (by have := HR.out; omega))
          clear hL4 HS0
          obtain ⟨a0, a1, a2, a3⟩ := (HA.out _ hb4).cells4
          go_wp2_with fail
          refine (HS1.out).mono ?_
          rintro e w5 ⟨rfl, hb5, hL5⟩
          have hb5 := hb4.trans hb5
          have HL5 := Lib.hid hL5
          clear hL5 HS1 a0 a1 a2 a3 hb4
          go_wp2_with fail
          refine (H16.out _ hb5).mono ?_
          rintro e w6 ⟨rfl, hb6⟩
          have hc6 := hb6
          have hb6 := hb5.trans (But.of_below hb6)
          go_wp2_with fail
          refine (H11.out _ hb6).mono ?_
          rintro e w7 ⟨rfl, hb7⟩
          have hc7 := Below.next hc6 hb7
          have hb7 := hb6.trans (But.of_below hb7)
          go_wp2_with fail
          refine (H06.out _ hb7).mono ?_
          rintro e w8 ⟨rfl, hb8⟩
          have hc8 := Below.next hc7 hb8
          have hb8 := hb7.trans (But.of_below hb8)
          go_wp2
          go_roundw
          case rel => exact ⟨n + 1, by omega, by go_num, by go_num, hb8, .inl ⟨by omega, by rw [show (Af : Int) - ((n + 1 : Nat) : Int) = (Af : Int) - (n : Int) - 1 by omega]; exact HL5.out.keep hc8⟩⟩
          case measure => simp [intOf]; omega
        · -- at the failing step
          have hL := (hst.resolve_right (fun h => by omega)).2
          rw [show (Af : Int) - (n : Int) = 0 by omega] at hL
          clear hst HST
          have HS0 := Lib.hid (stops_zero j n 0 _ wo hL hn5 (HK.out.keep (HW.out _ HBR.out)) (HTB.out.keep (HW.out _ HBR.out)) (by omega) (by omega))
          clear hL
          have g1 : ¬ (Af : Int) < (n : Int) := by omega
          have g2 : (n : Int) ≤ (Af : Int) := by omega
          have g3 : ((n : Int) == (Af : Int)) = true := beq_iff_eq.2 (by omega)
          have g4 : ¬ (n : Int) < (Af : Int) := by omega
          go_wp2_with fail
          refine (HS0.out).mono ?_
          rintro e w4 ⟨rfl, hb4, hL4⟩
          have hb4 := HBR.out.trans hb4
          have HS1 := Lib.hid (stops_half j n 0 _ w4 hL4 (HI.out _ hb4) hn5 (HK.out.keep (HW.out _ hb4)) (HTB.out.keep (HW.out _ hb4)))
          clear hL4 HS0
          obtain ⟨a0, a1, a2, a3⟩ := (HA.out _ hb4).cells4
          go_wp2_with fail
          refine (HS1.out).mono ?_
          rintro e w5 ⟨rfl, hb5, hL5⟩
          have hb5 := hb4.trans hb5
          have HL5 := Lib.hid hL5
          clear hL5 HS1 a0 a1 a2 a3 hb4
          go_wp2_with fail
          refine (H16.out _ hb5).mono ?_
          rintro e w6 ⟨rfl, hb6⟩
          have hc6 := hb6
          have hb6 := hb5.trans (But.of_below hb6)
          go_wp2_with fail
          refine (H11.out _ hb6).mono ?_
          rintro e w7 ⟨rfl, hb7⟩
          have hc7 := Below.next hc6 hb7
          have hb7 := hb6.trans (But.of_below hb7)
          go_wp2_with fail
          refine (H66.out _ hb7).mono ?_
          rintro e w8 ⟨rfl, hb8⟩
          have hc8 := Below.next hc7 hb8
          have hb8 := hb7.trans (But.of_below hb8)
          go_wp2
          go_roundw
          case rel => exact ⟨n + 1, by omega, by go_num, by go_num, hb8, .inr ⟨by omega, by rw [← hna]; exact HL5.out.keep hc8⟩⟩
          case measure => simp [intOf]; omega
        · -- behind it
          have hL := (hst.resolve_left (fun h => by omega)).2
          clear hst HST
          have HL := Lib.hid hL
          clear hL
          have HS0 := Lib.hid (fun W (hW : Below wo.heap.size wo W) what m sv tv h => logG_Say_stopped j 1 _ _ 0 (-1) what m sv tv h W (HL.out.keep hW))
          have g1 : (Af : Int) < (n : Int) := by omega
          have g2 : ¬ (n : Int) ≤ (Af : Int) := by omega
          have g3 : ((n : Int) == (Af : Int)) = false := beq_eq_false_iff_ne.2 (by omega)
          have g4 : ¬ (n : Int) < (Af : Int) := by omega
          go_wp2_with fail
          refine (HS0.out _ (Below.refl _ _) _ _ _ _ _).mono ?_
          rintro e w4 ⟨rfl, hc4⟩
          have hb4 := HBR.out.trans (But.of_below hc4)
          obtain ⟨a0, a1, a2, a3⟩ := (HA.out _ hb4).cells4
          go_wp2_with fail
          refine (HS0.out _ hc4 _ _ _ _ _).mono ?_
          rintro e w5 ⟨rfl, hc5⟩
          have hb5 := hb4.trans (But.of_below hc5)
          have hc5 := Below.next hc4 hc5
          clear HS0 a0 a1 a2 a3 hb4
          go_wp2_with fail
          refine (H66.out _ hb5).mono ?_
          rintro e w6 ⟨rfl, hb6⟩
          have hc6 := Below.next hc5 hb6
          have hb6 := hb5.trans (But.of_below hb6)
          go_wp2_with fail
          refine (H61.out _ hb6).mono ?_
          rintro e w7 ⟨rfl, hb7⟩
          have hc7 := Below.next hc6 hb7
          have hb7 := hb6.trans (But.of_below hb7)
          go_wp2_with fail
          refine (H66.out _ hb7).mono ?_
          rintro e w8 ⟨rfl, hb8⟩
          have hc8 := Below.next hc7 hb8
          have hb8 := hb7.trans (But.of_below hb8)
          go_wp2
          go_roundw
          case rel => exact ⟨n + 1, by omega, by go_num, by go_num, hb8, .inr ⟨by omega, HL.out.keep hc8⟩⟩
          case measure => simp [intOf]; omega
      · have HST2 := Lib.hid (HST.out.two hn5 HR.out.1)
        have hlt' : ¬ (n : Int) < (Mn : Int) := by omega
        clear HST hlt hnw
        go_wp2
        clear hlt'
        go_loopw [10] (fun s wr => ∃ n : Nat, n ≤ 6 ∧ s = .int .i64 n ∧ But (fun b => b = j) w3 wr ∧ StopSt2 wr j Af n) (fun s _ => 6 - (intOf s).toNat)
        case atStart => exact ⟨n, by omega, rfl, HBR.out, HST2.out⟩
        case round =>
          clear HST2 HBR
          clear hn hn5
          obtain ⟨n, hn, rfl, hbr, hst⟩ := hrel
          obtain ⟨wo, rfl⟩ : ∃ wo : World, wo = wr := ⟨_, rfl⟩
          have HBR := Lib.hid hbr
          have HST := Lib.hid hst
          have hnw : IntKind.i64.wrap ((n : Int) + 1) = (n : Int) + 1 := IntWalk.i64_in _ (by omega)
          clear hbr hst
          by_cases hle : n ≤ Af
          · obtain ⟨m, safe, hm, hsf, hL⟩ := (HST.out.resolve_right (fun h => by omega)).2
            have HS := Lib.hid (logG_Sync j 1 _ _ safe _ wo hL (by omega) (by have := HR.out; omega))
            have HM := Lib.hid (And.intro hm hsf)
            have hle' : (n : Int) ≤ (Af : Int) := by omega
            clear hL hm hsf HST
            by_cases hna : n = Af
            · have g3 : ((n : Int) == (Af : Int)) = true := beq_iff_eq.2 (by omega)
              go_wp2_with fail
              refine (HS.out).mono ?_
              rintro e w4 ⟨hb4, ⟨h0, rfl, hL⟩ | ⟨h0, -⟩⟩
              · have hb4 := HBR.out.trans hb4
                have HL := Lib.hid hL
                clear hL HS h0
                go_wp2
                go_roundw
                case rel => exact ⟨n + 1, by have := HR.out; omega, by go_num, hb4, .inr ⟨by omega, m, [], safe, HM.out.1, (by intro h; cases h), (by decide), HM.out.2, by rw [List.append_nil]; exact HL.out⟩⟩
                case measure => simp [intOf]; omega
              · omega
            · have g3 : ((n : Int) == (Af : Int)) = false := beq_eq_false_iff_ne.2 (by omega)
              go_wp2_with fail
              refine (HS.out).mono ?_
              rintro e w4 ⟨hb4, ⟨h0, -⟩ | ⟨h0, rfl, hL⟩⟩
              · omega
              · have hb4 := HBR.out.trans hb4
                rw [show max (-1) ((Af : Int) - (n : Int) - 1) = (Af : Int) - ((n + 1 : Nat) : Int) by omega] at hL
                have HL := Lib.hid hL
                clear hL HS h0
                go_wp2
                go_roundw
                case rel => exact ⟨n + 1, by have := HR.out; omega, by go_num, hb4, .inl ⟨by omega, m, _, HM.out.1, Nat.le_refl _, HL.out⟩⟩
                case measure => simp [intOf]; omega
          · obtain ⟨m, part, safe, hm, hp, hpl, hsf, hL⟩ := (HST.out.resolve_left (fun h => by omega)).2
            have HL := Lib.hid hL
            have HM := Lib.hid (And.intro hm (And.intro hp (And.intro hpl hsf)))
            have hle' : ¬ (n : Int) ≤ (Af : Int) := by omega
            have HSY := Lib.hid (logG_Sync_stopped j 1 _ _ safe (-1) wo hL)
            have HSS := Lib.hid (fun what m sv tv h => logG_Say_stopped j 1 _ _ safe (-1) what m sv tv h wo hL)
            clear hL hm hp hpl hsf HST hle
            go_wp2_with fail
            clear hle'
            refine (HSY.out).mono ?_
            rintro e w' ⟨rfl, rfl⟩
            obtain ⟨a0, a1, a2, a3⟩ := (HA.out _ HBR.out).cells4
            go_wp2_with fail
            refine (HSS.out _ _ _ _ _).mono ?_
            rintro e w4 ⟨rfl, hc4⟩
            have hb4 := HBR.out.trans (But.of_below hc4)
            clear HSY HSS a0 a1 a2 a3
            go_wp2_with fail
            refine (H66.out _ hb4).mono ?_
            rintro e w5 ⟨rfl, hb5⟩
            have hc5 := Below.next hc4 hb5
            have hb5 := hb4.trans (But.of_below hb5)
            clear hb4
            go_wp2_with fail
            refine (H66.out _ hb5).mono ?_
            rintro e w6 ⟨rfl, hb6⟩
            have hc6 := Below.next hc5 hb6
            have hb6 := hb5.trans (But.of_below hb6)
            have HCR := Lib.hid (stops_crash j m safe part keep w6 (HL.out.keep hc6) HM.out.1 HM.out.2.1 HM.out.2.2.1 HM.out.2.2.2)
            clear hb5 hc4 hc5 hc6
            go_wp2_with fail
            refine (HCR.out).mono ?_
            rintro e w7 ⟨rfl, hb7, k, hk, hL7⟩
            have hb7 := hb6.trans hb7
            have HK5 := Lib.hid hk
            have HL7 := Lib.hid hL7
            have HC := Lib.hid (stops_count j k _ _ w7 hL7 hk)
            have hkw : IntKind.i64.wrap ((k : Int) + 1) = (k : Int) + 1 := IntWalk.i64_in _ (by omega)
            clear HL HM HCR hb6 hk hL7
            go_wp2_with fail
            refine (HC.out).mono ?_
            rintro e w8 ⟨A8, c8, rfl, hc8⟩
            have hb8 := hb7.trans (But.of_below hc8)
            have hl8 := HL7.out.keep hc8
            have hx8 : Below w8.heap.size w8 (w8.alloc (.cells #[.int .i64 2] 3)) := by have w := w8; (repeat' (first | (with_reducible exact Below.refl _ _) | (with_reducible assumption) | (with_reducible refine Below.next ?_ (by with_reducible assumption)) | (with_reducible refine Below.drew ?_) | (with_reducible refine Below.laid ?_ _) | (with_reducible refine Below.setCell ?_ ?_ _) | (with_reducible refine size_of ?_) | (with_reducible refine Nat.le_succ_of_le ?_) | go_size))
            have hb9 := hb8.trans (But.of_below hx8)
            have HLA := Lib.hid (stops_last j k _ _ _ (hl8.keep hx8) (IsInts.one w8 2 3) HK5.out (HK.out.keep (HW.out _ hb9)) (HTB.out.keep (HW.out _ hb9)))
            clear hc8 hl8 hx8 HC HL7 hb8 hb7
            go_wp2_with fail
            refine (HLA.out).mono ?_
            rintro e w9 ⟨rfl, hb, bs, hL9⟩
            have hb9 := hb9.trans hb
            have HSY := Lib.hid (logG_Sync j 1 _ _ _ _ w9 hL9 (by decide) (by decide))
            clear hb hL9 HLA
            go_wp2_with fail
            refine (HSY.out).mono ?_
            rintro e w10 ⟨hb, ⟨h0, -⟩ | ⟨-, rfl, hL10⟩⟩
            · exact absurd h0 (by decide)
            · have hb10 := hb9.trans hb
              rw [show max (-1) ((-1 : Int) - 1) = -1 by decide] at hL10
              have HE := Lib.hid (stops_end j k _ _ w10 hL10 HK5.out)
              have HL10 := Lib.hid hL10
              clear hb hL10 HSY hb9
              go_wp2_with fail
              refine (HE.out).mono ?_
              rintro e w11 ⟨A, c, rfl, hc11, ⟨ad, a2, c2, C, cC, a3, c3, rfl, h0, h1, ha, hc, h2, h3⟩⟩
              have hb11 := hb10.trans (But.of_below hc11)
              have HAA := Lib.hid ha
              have HCC := Lib.hid hc
              have HFC := Lib.hid (show Calls Tryz.prog 28 #[.agg #[.slice (some a2) 1 c2, .slice C 1 cC]] w11 (Keeps .nilIface w11) from by
                have h := form_Check _ _ [stC] [0] w11 HAA.out HCC.out (HK.out.keep (HW.out _ hb11))
                rw [errV_zero (by decide +kernel)] at h
                exact h)
              have HBY := Lib.hid (fun W (hW : Below w11.heap.size w11 W) => logG_Bytes j 1 _ _ _ _ _ W (HL10.out.keep (Below.next hc11 hW)))
              have HSA := Lib.hid (fun W (hW : Below w11.heap.size w11 W) => logG_Safe j 1 _ _ _ _ _ W (HL10.out.keep (Below.next hc11 hW)))
              have hk0 : (0 : Int) ≤ (k : Int) := by omega
              have hk1 : (k : Int) < ((k + 1 : Nat) : Int) := by omega
              have hkc : (((k + 1 : Nat) : Int) == (k : Int) + 1) = true := beq_iff_eq.2 (by omega)
              clear ha hc HE
              go_wp2_with fail
              refine (HFC.out).mono ?_
              rintro e w12 ⟨rfl, hc12⟩
              have g2 := cell_keep hc12 h2
              have g3 := cell_keep hc12 h3
              have g0 := cell_keep hc12 h0
              have g1 := cell_keep hc12 h1
              clear h0 h1 h2 h3
              go_wp2_with fail
              refine (HSA.out _ hc12).mono ?_
              rintro e w' ⟨rfl, rfl⟩
              go_wp2_with fail
              refine (HBY.out _ hc12).mono ?_
              rintro e w' ⟨rfl, rfl⟩
              go_wp2
              go_ret
              exact ⟨rfl, HW.out _ (hb11.trans (But.of_below hc12))⟩
end Go.Proofs.YtcloppcekbdbaaaGreatDoor
