/-
  THE WALK of vennlaw3.LogKeeps.
-/
import Derived.Test.YtjnjgcibhjdmdaaGreatDoorKeepsSay
import Derived.Test.YtjnjgcibhjdmdaaGreatDoorRefAsk
import Derived.Test.YtjnjgcibhjdmdaaGreatDoorRefG
import Derived.Deep.DeepCutAuto
import Derived.Deep.CutBlock
import Derived.Deep.RegionHeld3
import Derived.Deep.CutRange
namespace Go.Proofs.YtjnjgcibhjdmdaaGreatDoor
open Go.RowKit

set_option maxHeartbeats 8000000 in
set_option maxRecDepth 100000 in
theorem logKeeps_walk (v vd vs vf vk : Value) (al : List Venn.Atom) (ds ss fs ks : List Int) (u : Int) (w : World) (ha : IsAtoms w v al) (hd : IsInts w vd ds) (hs : IsInts w vs ss) (hf : IsInts w vf fs) (hkp : IsInts w vk ks)
    (hwf : ∀ n ∈ fs, n ≤ 9223372036854775807) (hk : KindsOk w) (het : EtOk w) (htab : TabOk w) :
    Calls Tryz.prog 4 #[.int .i64 u, v, vd, vs, vf, vk] w (Keeps (.bool true) w) := by
  have HK := Lib.hid hk
  have HET := Lib.hid het
  have HTB := Lib.hid htab
  have HN := Lib.hid (logG_New 2 w (by decide))
  have HWF := Lib.hid hwf
  obtain ⟨A, cA, rfl, hra, hlc, hcm⟩ := ha
  obtain ⟨D, cD, rfl, hrd, hld, hdm⟩ := hd
  obtain ⟨S, cS, rfl, hrs, hls, hsm⟩ := hs
  obtain ⟨F, cF, rfl, hrf, hlf, hfm⟩ := hf
  obtain ⟨P, cP, rfl, hrp, hlp, hpm⟩ := hkp
  have HRA := Lib.hid hra
  have HRD := Lib.hid hrd
  have HRS := Lib.hid hrs
  have HRF := Lib.hid hrf
  have HRP := Lib.hid hrp
  have hal : (al.length : Int) ≤ 9223372036854775807 := by unfold maxLen at hcm; omega
  have hfl : (fs.length : Int) ≤ 9223372036854775807 := by unfold maxLen at hfm; omega
  have HLN := Lib.hid (And.intro hal hfl)
  clear hk het htab hwf hra hrd hrs hrf hrp hlc hcm hld hdm hls hsm hlf hfm hlp hpm hal hfl
  obtain ⟨j0, hj0⟩ : ∃ j, j = w.heap.size := ⟨_, rfl⟩
  rw [← hj0] at HN
  have HJ := Lib.hid hj0
  clear hj0
  go_enter Tryz.func4, Tryz.ntmps4
  go_wp2_with fail
  refine (HN.out).mono ?_
  rintro e w1 ⟨rfl, hb1, hlog⟩
  rw [HJ.out] at hb1
  have HL1 := Lib.hid hlog
  have HJ1 := Lib.hid (show j0 < w1.heap.size by obtain ⟨A, c, p, hB, -⟩ := hlog; exact hB.lt)
  clear hlog HN
  go_upto_region 5 with (fail)
  have hb2 : Below w.heap.size w ((w1.alloc (.cells #[.int .i64 0] 3)).alloc (.cells #[.int .i64 3, .slice (some ⟨w1.heap.size, 0, none⟩) 1 1, .slice none 0 0, .int .i64 1] 32)) := (Below.laid (Below.laid hb1 _) _)
  have B0 : Blk ((w1.alloc (.cells #[.int .i64 0] 3)).alloc (.cells #[.int .i64 3, .slice (some ⟨w1.heap.size, 0, none⟩) 1 1, .slice none 0 0, .int .i64 1] 32)) w1.heap.size 3 #[.int .i64 0] := (Blk.new w1 _ _).alloc _
  have B1 : Blk ((w1.alloc (.cells #[.int .i64 0] 3)).alloc (.cells #[.int .i64 3, .slice (some ⟨w1.heap.size, 0, none⟩) 1 1, .slice none 0 0, .int .i64 1] 32)) (w1.heap.size + 1) 32 #[.int .i64 3, .slice (some ⟨w1.heap.size, 0, none⟩) 1 1, .slice none 0 0, .int .i64 1] := Blk.newAt (by simp) _ _
  have hl2 : LogG ((w1.alloc (.cells #[.int .i64 0] 3)).alloc (.cells #[.int .i64 3, .slice (some ⟨w1.heap.size, 0, none⟩) 1 1, .slice none 0 0, .int .i64 1] 32)) j0 2 (saidF (kR 0)) (kB 0) 0 (-1) false := HL1.out.keep (Below.laid (Below.laid (Below.refl _ _) _) _)
  clear HL1 hb1
  revert hb2 B0 B1 hl2
  obtain ⟨b0, hb0⟩ : ∃ b0, b0 = w1.heap.size := ⟨_, rfl⟩
  rw [← hb0]
  have hjb : j0 < b0 := by rw [hb0]; exact HJ1.out
  generalize (w1.alloc (.cells #[.int .i64 0] 3)).alloc (.cells #[.int .i64 3, .slice (some ⟨b0, 0, none⟩) 1 1, .slice none 0 0, .int .i64 1] 32) = w2
  intro hb2 B0 B1 hl2
  have HW := Lib.hid (fun W (hW : But (fun b => b = j0) w2 W) => show Below w.heap.size w W from hb2.trans (hW.below hb2.size (fun b h => by have := HJ.out; omega)))
  have HA := Lib.hid (fun W (hW : But (fun b => b = j0) w2 W) => show Blk W (b0 + 1) 32 #[.int .i64 3, .slice (some ⟨b0, 0, none⟩) 1 1, .slice none 0 0, .int .i64 1] from B1.but hW (by omega))
  have HI := Lib.hid (fun W (hW : But (fun b => b = j0) w2 W) => show IsInts W (.slice (some ⟨b0, 0, none⟩) 1 1) [0] from IsInts.of_blk1 (B0.but hW (by omega)))
  have HKW := Lib.hid (fun W (hW : But (fun b => b = j0) w2 W) => show KindsOk W ∧ TabOk W ∧ EtOk W from ⟨HK.out.keep (HW.out W hW), HTB.out.keep (HW.out W hW), HET.out.keep (HW.out W hW)⟩)
  have b2 := But.refl (fun b => b = j0) w2
  have S1 := Lib.hid (k_Yes j0 0 0 _ w2 hl2 (HI.out _ b2) (by decide) (HKW.out _ b2).1 (HKW.out _ b2).2.1)
  obtain ⟨a0, a1, a2, a3⟩ := (HA.out _ b2).cells4
  clear hb2 B0 B1 hl2 HJ1 hjb hb0
  go_wp2_with fail
  refine (S1.out).mono ?_
  rintro e w3 ⟨rfl, b3, hl3⟩
  have S2 := Lib.hid (k_Sync j0 1 w3 hl3)
  clear a0 a1 a2 a3 hl3 S1 b2
  go_wp2_with fail
  refine (S2.out).mono ?_
  rintro e w4 ⟨rfl, b4, hl4⟩
  have b4 := b3.trans b4
  have S3 := Lib.hid (k_Yes j0 1 11 _ w4 hl4 (HI.out _ b4) (by decide) (HKW.out _ b4).1 (HKW.out _ b4).2.1)
  obtain ⟨a0, a1, a2, a3⟩ := (HA.out _ b4).cells4
  clear hl4 S2 b3
  go_wp2_with fail
  refine (S3.out).mono ?_
  rintro e w5 ⟨rfl, b5, hl5⟩
  have b5 := b4.trans b5
  have S4 := Lib.hid (k_No j0 11 _ w5 hl5 (HI.out _ b5) (HKW.out _ b5).1 (HKW.out _ b5).2.1)
  clear a0 a1 a2 a3 hl5 S3 b4
  obtain ⟨a0, a1, a2, a3⟩ := (HA.out _ b5).cells4
  go_wp2_with fail
  refine (S4.out).mono ?_
  rintro e w6 ⟨rfl, b6, hl6⟩
  have b6 := b5.trans b6
  have S5 := Lib.hid (k_Crash j0 w6 hl6)
  clear a0 a1 a2 a3 hl6 S4 b5
  go_wp2_with fail
  refine (S5.out).mono ?_
  rintro e w7 ⟨rfl, b7, hl7⟩
  have b7 := b6.trans b7
  have S6 := Lib.hid (k_All j0 w7 hl7)
  clear S5 b6
  go_wp2_with fail
  refine (S6.out).mono ?_
  rintro e w8 ⟨ad, c8, a2, c2, rfl, hc8, h0, h3⟩
  have b8 := b7.trans (But.of_below hc8)
  have E77 := Lib.hid (show Calls Tryz.prog 15 #[.iface 59 (.int .i64 7), .int .i64 7] w8 (Keeps (.bool true) w8) from err_n 7 7 (by decide) w8 (HKW.out _ b8).2.2)
  have HL8 := Lib.hid (hl7.keep hc8)
  clear S6 b7 hl7 hc8
  go_wp2_with fail
  refine (E77.out).mono ?_
  rintro e w9 ⟨rfl, hc9⟩
  have b9 := b8.trans (But.of_below hc9)
  have h0 := cell_keep hc9 h0
  have h3 := cell_keep hc9 h3
  have HL9 := HL8.out.keep hc9
  have HBY := Lib.hid (show Calls Tryz.prog 17 #[.pointer (some ⟨j0, 0, none⟩)] w9 (Pure (.int .i64 11) w9) from by
    have h := logG_Bytes j0 2 _ _ _ _ _ w9 HL9
    rw [kB_size] at h
    exact h)
  have HSA := Lib.hid (show Calls Tryz.prog 18 #[.pointer (some ⟨j0, 0, none⟩)] w9 (Pure (.int .i64 11) w9) from logG_Safe j0 2 _ _ _ _ _ w9 HL9)
  have HW9 := Lib.hid (HW.out _ b9)
  clear E77 HL8 HL9 hc9 b8 b9
  go_wp2_with fail
  refine (HBY.out).mono ?_
  rintro e w' ⟨rfl, rfl⟩
  go_wp2_with fail
  refine (HSA.out).mono ?_
  rintro e w' ⟨rfl, rfl⟩
  clear h0 h3 HBY HSA HW HA HI HKW
  cases hu : Venn.things u with
  | false =>
    have hn : u < 0 ∨ (¬ u < 0 ∧ 6 < u) := by
      unfold Venn.things at hu
      simp only [Bool.and_eq_false_iff, decide_eq_false_iff_not] at hu
      omega
    have HNB := Lib.hid (logG_New_bad u w9 hu)
    have E11 := Lib.hid (show Calls Tryz.prog 15 #[.iface 59 (.int .i64 1), .int .i64 1] w9 (Keeps (.bool true) w9) from err_n 1 1 (by decide) w9 (HET.out.keep HW9.out))
    clear hu
    rcases hn with hn | ⟨hn, hn'⟩
    all_goals
      go_wp2_with fail
      refine (HNB.out).mono ?_
      rintro e w' ⟨rfl, rfl⟩
      go_wp2_with fail
      refine (E11.out).mono ?_
      rintro e w10 ⟨rfl, hc10⟩
      go_wp2
      go_ret
      exact ⟨rfl, Below.next HW9.out hc10⟩
  | true =>
    have HU := Lib.hid hu
    have hn : ¬ u < 0 ∧ ¬ 6 < u := by
      unfold Venn.things at hu
      simp only [Bool.and_eq_true, decide_eq_true_eq] at hu
      omega
    obtain ⟨hn0, hn6⟩ := hn
    have HNW := Lib.hid (kp_New (fun _ => False) u w9 hu)
    clear hu
    go_wp2_with fail
    refine (HNW.out).mono ?_
    rintro e w10 ⟨rfl, hc10, hst⟩
    have hq10 := Below.next HW9.out hc10
    obtain ⟨j, hj⟩ : ∃ j, j = w9.heap.size := ⟨_, rfl⟩
    rw [← hj] at hst
    rw [← hj]
    have HJW := Lib.hid (show w.heap.size ≤ j by rw [hj]; exact HW9.out.size)
    have HST := Lib.hid hst
    have E00 := Lib.hid (show Calls Tryz.prog 15 #[.nilIface, .int .i64 0] w10 (Keeps (.bool true) w10) from err_nil 0 w10 (HET.out.keep hq10))
    clear hn0 hn6 hj hst hc10 HNW
    go_wp2_with fail
    refine (E00.out).mono ?_
    rintro e w11 ⟨rfl, hc11⟩
    have hq11 := Below.next hq10 hc11
    have hst := HST.out.keep hc11
    have hjl := hst.lt
    clear HST E00 hq10 hc11
    go_upto_region 24 with (fail)
    have hal : Below w11.heap.size w11 (w11.alloc (.cells #[.int .i64 0] 3)) := Below.laid (Below.refl _ _) _
    have H0 := Lib.hid (show KpLoop j u (.slice none 0 0) (.slice (some ⟨w11.heap.size, 0, none⟩) 1 1) w (w11.alloc (.cells #[.int .i64 0] 3)) from
      ⟨[], 0, 0, w11.heap.size, 1, rfl, Below.next hq11 hal, by omega, KpM.start w11 w.heap.size hq11.size, KpD.nil _ _ _, (hst.keep hal).anyC⟩)
    revert H0
    clear hal hst hjl
    generalize w11.alloc (.cells #[.int .i64 0] 3) = w12
    generalize w11.heap.size = g0
    intro H0
    clear hq11 HW9 HJ
    go_wp2
    go_loopw [25, 26, 27, 28] (fun d m a r wr => ∃ k rd : Nat, k ≤ al.length ∧ rd ≤ 4 ∧ a = .int .i64 k ∧ r = .int .i64 rd ∧ KpLoop j u d m w wr) (fun _ _ _ r _ => 4 - (intOf r).toNat)
    case atStart => exact ⟨0, 0, Nat.zero_le _, by decide, rfl, rfl, H0.out⟩
    case round =>
      clear H0
      obtain ⟨k, rd, hk, hr4, rfl, rfl, rec, b, s, g, cm, rfl, hb, hgj, hm, hd, hst⟩ := hrel
      obtain ⟨DA, dc, rfl, hdc, hdn⟩ := hd.slice
      obtain ⟨wo, rfl⟩ : ∃ wo : World, wo = wr := ⟨_, rfl⟩
      have HB := Lib.hid hb
      have HM := Lib.hid hm
      have HD := Lib.hid hd
      have HST := Lib.hid hst
      have hrw : IntKind.i64.wrap ((rd : Int) + 1) = (rd : Int) + 1 := IntWalk.i64_in _ (by omega)
      clear hb hm hd hst
      by_cases hin : rd ≤ fs.length ∧ rd < 4
      · obtain ⟨hi1, hi2⟩ := hin
        have hi1' : (rd : Int) ≤ (fs.length : Int) := by omega
        have hi2' : (rd : Int) < 4 := by omega
        have hrd0 : (0 : Int) ≤ (rd : Int) := by omega
        go_upto_if 138 with (fail)
        go_cut [] from 135 to 144 (fun wx => But (fun b => b = j) wo wx ∧ KpSt (fun b => b = g) wx j u rec b s)
        case first =>
          as_aux_lemma =>
            by_cases hfl : rd < fs.length
            · have hfl' : (rd : Int) < (fs.length : Int) := by omega
              obtain ⟨ad, rfl, f0⟩ := HRF.out rd (.int .i64 fs[rd]) (by rw [List.getElem?_map, List.getElem?_eq_getElem hfl]; rfl)
              have f0 := cell_keep HB.out f0
              have HFA := Lib.hid (kp_Fail j u rec b s fs[rd] wo HST.out (HWF.out _ (List.getElem_mem hfl)))
              generalize fs[rd] = y at f0 HFA
              go_wp2_with fail
              refine (HFA.out).mono ?_
              rintro e w2 ⟨rfl, hb2, hst2⟩
              have HR := Lib.hid (And.intro hb2 hst2)
              clear hb2 hst2 f0 HFA
              go_wp2
              go_meet
              case rel => exact HR.out
            · have hfl' : ¬ (rd : Int) < (fs.length : Int) := by omega
              go_wp2
              go_meet
              case rel => exact ⟨But.refl _ _, HST.out⟩
        case rest =>
        obtain ⟨hbt, hst⟩ := hcut
        obtain ⟨w2, rfl⟩ : ∃ w2 : World, w2 = wc := ⟨_, rfl⟩
        have H1 := Lib.hid (show KpLoop j u (.slice DA rec.length dc) (.slice (some ⟨g, 0, none⟩) (rec.length + 1) cm) w w2 from
          ⟨rec, b, s, g, cm, rfl, HB.out.trans (hbt.below HB.out.size (fun b h => by have := HJW.out; omega)), hgj, HM.out.step hbt hgj, HD.out.step hbt, hst⟩)
        clear hbt hst HB HM HD HST hi1 hi1' hi2' hdc hdn
        go_wp2
        go_loopw [25, 26, 27, 29] (fun d m a i wr => ∃ k x : Nat, k ≤ al.length ∧ x ≤ 6 ∧ a = .int .i64 k ∧ i = .int .i64 x ∧ KpLoop j u d m w wr) (fun _ _ _ i _ => 6 - (intOf i).toNat)
        case atStart => exact ⟨k, 0, hk, by decide, rfl, rfl, H1.out⟩
        case round =>
          clear H1
          clear hk
          obtain ⟨k, x, hk, hx6, rfl, rfl, rec, b, s, g, cm, rfl, hb, hgj, hm, hd, hst⟩ := hrel
          obtain ⟨DA, dc, rfl, hdc, hdn⟩ := hd.slice
          obtain ⟨wo, rfl⟩ : ∃ wo : World, wo = wr := ⟨_, rfl⟩
          have HB := Lib.hid hb
          have HM := Lib.hid hm
          have HD := Lib.hid hd
          have HST := Lib.hid hst
          have hxw : IntKind.i64.wrap ((x : Int) + 1) = (x : Int) + 1 := IntWalk.i64_in _ (by omega)
          have hk0 : (0 : Int) ≤ (k : Int) := by omega
          have HR6 := Lib.hid hst.bound.2.2
          clear hb hm hd hst
          by_cases hin : x < 6 ∧ k < al.length
          · -- INNER<
            obtain ⟨hxl, hkl⟩ := hin
            have hxl' : (x : Int) < 6 := by omega
            have hkl' : (k : Int) < (al.length : Int) := by omega
            have HKX := Lib.hid (And.intro hkl hxl)
            have hkw : IntKind.i64.wrap ((k : Int) + 1) = (k : Int) + 1 := IntWalk.i64_in _ (by have := HLN.out.1; omega)
            obtain ⟨⟨aw, aS, aT, an⟩, hxa⟩ : ∃ y, al[k]? = some y := ⟨al[k], List.getElem?_eq_getElem hkl⟩
            obtain ⟨ad, sv, tv, rfl, g0, g1, g2, g3, hs, ht⟩ := HRA.out k _ hxa
            simp only at g0 g1 g2 g3 hs ht
            obtain ⟨SA, kS, rfl⟩ := hs.slice
            obtain ⟨TA, kT, rfl⟩ := ht.slice
            have HG := Lib.hid (fun W (hW : Below w.heap.size w W) => And.intro (cell_keep hW g0) (And.intro (cell_keep hW g1) (And.intro (cell_keep hW g2) (cell_keep hW g3))))
            have HIT := Lib.hid (fun W (hW : Below w.heap.size w W) => And.intro (hs.keep hW) (ht.keep hW))
            clear hxa g0 g1 g2 g3 hs ht hkl hxl
            -- the sync
            go_upto_region 31 with (fail)
            go_cut [177] from 177 to 177 (fun z wx => z = .bool false ∧ But (fun b => b = j) wo wx ∧ ∃ s', KpSt (fun b => b = g) wx j u rec b s')
            case first =>
              as_aux_lemma =>
                have HSY := Lib.hid (kp_Sync j u rec b s wo HST.out)
                by_cases hsl : k < ss.length
                · have hsl' : (k : Int) < (ss.length : Int) := by omega
                  obtain ⟨ad2, rfl, f0⟩ := HRS.out k (.int .i64 ss[k]) (by rw [List.getElem?_map, List.getElem?_eq_getElem hsl]; rfl)
                  have f0 := cell_keep HB.out f0
                  generalize ss[k] = y at f0
                  by_cases hy : y = 1
                  · have hy' : (y == 1) = true := beq_iff_eq.2 hy
                    clear hy
                    go_wp2_with fail
                    refine (HSY.out).mono ?_
                    rintro e w2 ⟨hb2, ⟨rfl, hst2⟩ | ⟨rfl, hst2⟩⟩
                    · have HR := Lib.hid (And.intro hb2 hst2)
                      clear hb2 hst2 f0 HSY
                      go_wp2
                      go_meet
                      case rel => exact ⟨rfl, HR.out.1, s, HR.out.2⟩
                    · have HR := Lib.hid (And.intro hb2 hst2)
                      have HSA := Lib.hid (kp_Safe j u rec b b w2 hst2)
                      have HBY := Lib.hid (kp_Bytes j u rec b b w2 hst2)
                      clear hb2 hst2 f0 HSY
                      go_wp2_with fail
                      refine (HSA.out).mono ?_
                      rintro e w' ⟨rfl, rfl⟩
                      go_wp2_with fail
                      refine (HBY.out).mono ?_
                      rintro e w' ⟨rfl, rfl⟩
                      go_wp2
                      go_meet
                      case rel => exact ⟨rfl, HR.out.1, b, HR.out.2⟩
                  · have hy' : (y == 1) = false := beq_eq_false_iff_ne.2 hy
                    clear hy
                    go_wp2
                    go_meet
                    case rel => exact ⟨rfl, But.refl _ _, s, HST.out⟩
                · have hsl' : ¬ (k : Int) < (ss.length : Int) := by omega
                  go_wp2
                  go_meet
                  case rel => exact ⟨rfl, But.refl _ _, s, HST.out⟩
            case rest =>
            obtain ⟨rfl, hbt, s2, hst⟩ := hcut
            obtain ⟨w2, rfl⟩ : ∃ w2 : World, w2 = wc := ⟨_, rfl⟩
            have HB2 := Lib.hid (HB.out.trans (hbt.below HB.out.size (fun b h => by have := HJW.out; omega)))
            have HM2 := Lib.hid (HM.out.step hbt hgj)
            have HD2 := Lib.hid (HD.out.step hbt)
            have HST2 := Lib.hid hst
            clear hbt hst HB HM HD HST
            -- whether it holds
            go_upto_region 33 with (fail)
            go_cut [30] from 188 to 188 (fun z wx => wx = w2 ∧ ∃ q : Bool, z = .bool q)
            case first =>
              as_aux_lemma =>
                by_cases hdl : k < ds.length
                · have hdl' : ¬ (ds.length : Int) ≤ (k : Int) := by omega
                  have hdl2 : (k : Int) < (ds.length : Int) := by omega
                  obtain ⟨ad2, rfl, f0⟩ := HRD.out k (.int .i64 ds[k]) (by rw [List.getElem?_map, List.getElem?_eq_getElem hdl]; rfl)
                  have f0 := cell_keep HB2.out f0
                  generalize ds[k] = y at f0
                  go_wp2
                  go_meet
                  case rel => exact ⟨rfl, _, rfl⟩
                · have hdl' : (ds.length : Int) ≤ (k : Int) := by omega
                  go_wp2
                  go_meet
                  case rel => exact ⟨rfl, _, rfl⟩
            case rest =>
            obtain ⟨rfl, hld, rfl⟩ := hcut
            -- the atom's own fault
            have HAT := Lib.hid (ref_Atom aw an _ _ aS aT wc (HIT.out _ HB2.out).1 (HIT.out _ HB2.out).2)
            obtain ⟨g0, g1, g2, g3⟩ := HG.out _ HB2.out
            obtain ⟨E1, hE1⟩ : ∃ E1 : Int, E1 = if Venn.atomChk ⟨aw, aS, aT, an⟩ = 0 then (if 6 ≤ rec.length then 4 else 0) else Venn.atomChk ⟨aw, aS, aT, an⟩ := ⟨_, rfl⟩
            have HE1 := Lib.hid hE1
            have HSE := Lib.hid (sayE_one (a := ⟨aw, aS, aT, an⟩) (h := hld) (u := u) (rec := rec) hE1)
            clear hE1
            go_wp2_with fail
            refine (HAT.out).mono ?_
            rintro e w3 ⟨rfl, hb3⟩
            have HB3 := Lib.hid (Below.next HB2.out hb3)
            have HM3 := Lib.hid (HM2.out.keep hb3)
            have HD3 := Lib.hid (HD2.out.keep hb3)
            have HST3 := Lib.hid (HST2.out.keep hb3)
            clear hb3 HAT HB2 HM2 HD2 HST2 g0 g1 g2 g3
            generalize hck : Venn.atomChk ⟨aw, aS, aT, an⟩ = ck at HE1
            have HCK := Lib.hid hck
            clear hck
            obtain ⟨q6, hq6⟩ : ∃ q : Bool, q = decide (ck = 0 ∧ 6 ≤ rec.length) := ⟨_, rfl⟩
            have HQ6 := Lib.hid hq6
            clear hq6
            go_upto_region 35 with (fail)
            go_cut [200] from 200 to 200 (fun z wx => wx = w3 ∧ z = .bool q6)
            case first =>
              as_aux_lemma =>
                by_cases hc : ck = 0
                · have q1 : (ck == 0) = true := beq_iff_eq.2 hc
                  by_cases h6 : 6 ≤ rec.length
                  · have h6' : (6 : Int) ≤ (rec.length : Int) := by omega
                    have HV := Lib.hid (show q6 = true by rw [HQ6.out]; simp [hc, h6])
                    clear hc h6
                    go_wp2
                    go_meet
                    case rel => exact ⟨rfl, by rw [HV.out]⟩
                  · have h6' : ¬ (6 : Int) ≤ (rec.length : Int) := by omega
                    have HV := Lib.hid (show q6 = false by rw [HQ6.out]; simp [h6])
                    clear hc h6
                    go_wp2
                    go_meet
                    case rel => exact ⟨rfl, by rw [HV.out]⟩
                · have q1 : (ck == 0) = false := beq_eq_false_iff_ne.2 hc
                  have HV := Lib.hid (show q6 = false by rw [HQ6.out]; simp [hc])
                  clear hc
                  go_wp2
                  go_meet
                  case rel => exact ⟨rfl, by rw [HV.out]⟩
            case rest =>
            obtain ⟨rfl, rfl⟩ := hcut
            go_upto_if 200 with (fail)
            go_cut [31] from 194 to 200 (fun z wx => wx = wc ∧ z = .int .i64 E1)
            case first =>
              as_aux_lemma =>
                cases q6
                · have HV := Lib.hid (show E1 = ck by
                    have h := HQ6.out
                    simp only [Bool.false_eq, decide_eq_false_iff_not, not_and] at h
                    rw [HE1.out]
                    by_cases hc : ck = 0
                    · rw [if_pos hc, if_neg (h hc), hc]
                    · rw [if_neg hc])
                  go_wp2
                  go_meet
                  case rel => exact ⟨rfl, by rw [HV.out]⟩
                · have HV := Lib.hid (show E1 = 4 by
                    have h := HQ6.out
                    simp only [Bool.true_eq, decide_eq_true_eq] at h
                    rw [HE1.out, if_pos h.1, if_pos h.2])
                  go_wp2
                  go_meet
                  case rel => exact ⟨rfl, by rw [HV.out]⟩
            case rest =>
            obtain ⟨rfl, rfl⟩ := hcut
            clear HQ6
            -- what will be said: first what was
            obtain ⟨w3, rfl⟩ : ∃ w3 : World, w3 = wc := ⟨_, rfl⟩
            have HCZ := Lib.hid (show E1 = 0 → Venn.atomChk ⟨aw, aS, aT, an⟩ = 0 ∧ rec.length < 6 from fun h => by
              have h2 := HE1.out
              rw [h] at h2
              rw [HCK.out]
              by_cases hc : ck = 0
              · rw [if_pos hc] at h2
                refine ⟨hc, ?_⟩
                by_cases h6 : 6 ≤ rec.length
                · rw [if_pos h6] at h2; exact absurd h2 (by decide)
                · omega
              · rw [if_neg hc] at h2; exact absurd h2.symm hc)
            clear HE1 HCK
            obtain ⟨DA', dc', p, hdv, hpl, hpc, hpm, hpn, hpf, hpcl⟩ := HD3.out
            injection hdv with e1 e2 e3
            subst e1 e3
            have HPF := Lib.hid (And.intro hpl hpf)
            have HPC := Lib.hid hpcl
            have hrd3 := (hpcl w3 (But.refl _ _)).1
            have hfo3 := (hpcl w3 (But.refl _ _)).2
            have hp1000 : p.length ≤ 1000 := by have := HR6.out; omega
            clear hpm hpf hpcl e2 hpc
            go_upto_region 38 with (fail)
            go_cut [32] from 203 to 203 (fun z wx => Below w3.heap.size w3 wx ∧ World.ownsRow wx w3.heap.size 38 2 z p.length (fCells p))
            case first =>
              as_aux_lemma =>
                go_wp2_with (at_builtin; refine wpList_appFs _ rfl _ _ rfl (by simp [go_sem]) DA dc p (by simp [go_sem, hpl]) hpn hrd3 hfo3 hp1000 ?_)
                intro v' w4 hown hb4
                have HR := Lib.hid (And.intro hb4 (show World.ownsRow w4 w3.heap.size 38 2 v' p.length (fCells p) by rw [HPF.out.1]; exact hown))
                clear hown hb4
                go_wp2
                go_meet
                case rel => exact HR.out
            case rest =>
            obtain ⟨hb4, hown4⟩ := hcut
            obtain ⟨w4, rfl⟩ : ∃ w4 : World, w4 = wc := ⟨_, rfl⟩
            have HOW := Lib.hid hown4
            have HB4 := Lib.hid (Below.next HB3.out hb4)
            have H34 := Lib.hid hb4
            have HLM := Lib.hid (And.intro HST3.out.lt HM3.out.lt)
            clear hb4 hown4 hrd3 hfo3 hpl hpn
            obtain ⟨E, hE⟩ : ∃ E : Int, E = sayE ⟨aw, aS, aT, an⟩ hld u (saidF rec) := ⟨_, rfl⟩
            rw [← hE, ← kp_snoc] at HSE
            have HE := Lib.hid hE
            clear hE
            go_upto_if 205 with (fail)
            go_cut [31, 32] from 204 to 219 (fun z y wx => z = .int .i64 E ∧ Below w3.heap.size w3 wx ∧ (E = 0 → KpD g wx j y (rec ++ [(⟨aw, aS, aT, an⟩, hld)])))
            case first =>
              as_aux_lemma =>
                by_cases h0 : E1 = 0
                · have q1 : (E1 == 0) = true := beq_iff_eq.2 h0
                  have HZ := Lib.hid (HCZ.out h0)
                  have HEQ := Lib.hid (show E = if Venn.openV (saidF (rec ++ [(⟨aw, aS, aT, an⟩, hld)])) u = true then 0 else 7 from by rw [HSE.out, if_pos h0])
                  have HE10 := Lib.hid h0
                  have HAL := Lib.hid (ref_Alone w.heap.size aw an _ _ aS aT hld w4 HB4.out.size (fun W hW => HIT.out W (HB4.out.trans hW)))
                  obtain ⟨Fo, hFo⟩ : ∃ F, F = Venn.aloneF ⟨aw, aS, aT, an⟩ hld := ⟨_, rfl⟩
                  rw [← hFo] at HAL
                  have HFO := Lib.hid hFo
                  obtain ⟨g0, g1, g2, g3⟩ := HG.out _ HB4.out
                  have hp999 : p.length < 1000 := by have := HR6.out; have := HPF.out.1; omega
                  clear h0 hFo hp1000
                  go_wp2_with fail
                  refine (HAL.out).mono ?_
                  rintro e w5 ⟨FA, kA, FC, kC, rfl, hb5, hcl5⟩
                  have hal5 : Below w5.heap.size w5 (w5.alloc (.cells #[.slice FA Fo.atoms.length kA, .slice FC Fo.code.length kC] 38)) := Below.laid (Below.refl _ _) _
                  have hown5 := own_kept (own_kept HOW.out hb5) hal5
                  have hfo5 := fok_oneG (f := Fo) (hcl5 _ (But.of_below hal5))
                  have hB5 := Blk.new w5 38 #[.slice FA Fo.atoms.length kA, .slice FC Fo.code.length kC]
                  have hsz5 := (Below.next H34.out (Below.next hb5 hal5)).size
                  have HCL5 := Lib.hid hcl5
                  have HB45 := Lib.hid (Below.next hb5 hal5)
                  clear g0 g1 g2 g3 hcl5
                  go_wp2_with (at_builtin; refine wpList_appFN _ rfl _ _ rfl w3.heap.size _ p (by simp [go_sem]) hown5 w5.heap.size 1 (Fo, .slice FA Fo.atoms.length kA, .slice FC Fo.code.length kC) (by simp [go_sem]) hB5 hfo5 hp999 hsz5 ?_)
                  intro v' w6 hown6 hgr6
                  obtain ⟨h6, c6, rfl, -, -⟩ := World.ownsRow.form hown6 (by omega)
                  have hcap6 := own_cap hown6
                  have hb36 := (Below.next H34.out HB45.out).grown hgr6 hsz5 (fun b e => (HOW.out.lt b e).1)
                  have hKD : KpD g w6 j (.slice (some ⟨h6, 0, none⟩) (p.length + 1) c6) (rec ++ [(⟨aw, aS, aT, an⟩, hld)]) := by
                    refine ⟨some ⟨h6, 0, none⟩, c6, p ++ [(Fo, .slice FA Fo.atoms.length kA, .slice FC Fo.code.length kC)], by rw [List.length_append, HPF.out.1]; rfl, by rw [List.length_append, List.length_append, HPF.out.1]; rfl, by rw [List.length_append]; exact hcap6.1, hcap6.2, (fun h => by cases h), by rw [List.map_append, HPF.out.2, kp_snoc, ← HFO.out]; rfl, fun W hW => ?_⟩
                    refine ⟨?_, fok_appG (HPC.out W ((But.of_below hb36).trans hW)).2 (fok_oneG (f := Fo) (HCL5.out W ?_))⟩
                    · have ho := own_but hown6 hW (fun b e h => by
                        have h1 := (hown6.lt b e).1
                        have h2 := HLM.out
                        rcases h with h | h <;> omega)
                      rw [fCells_app]
                      exact fun i x hx => ⟨_, rfl, ho.cells (g := h6) rfl i x hx⟩
                    · have hs3 := HB3.out.size
                      have hs4 := H34.out.size
                      have hlm := HLM.out
                      have hjw := HJW.out
                      exact ((But.of_below hal5).trans ((But.of_grown hgr6).wide (fun b e => by have := HOW.out.lt b e; omega))).trans (hW.wide (fun b e => by rcases e with e | e <;> omega))
                  have HN6 := Lib.hid hKD
                  have HOP := Lib.hid (ref_Open _ _ u w6 hKD.forms (kp_chk (fun r hr => by
                    rcases List.mem_append.1 hr with hr | hr
                    · exact HST3.out.2.1 r hr
                    · rw [List.mem_singleton.1 hr]; exact HZ.out.1)) HU.out)
                  have HB36 := Lib.hid hb36
                  clear hKD hb36 hown6 hgr6 hcap6 hal5 hown5 hfo5 hB5 hsz5 HCL5 HB45 hp999
                  cases ho : Venn.openV (saidF (rec ++ [(⟨aw, aS, aT, an⟩, hld)])) u with
                  | false =>
                    rw [ho] at HOP HEQ
                    have HV := Lib.hid (show E = 7 from by rw [HEQ.out]; rfl)
                    clear ho
                    go_wp2_with fail
                    refine (HOP.out).mono ?_
                    rintro e w7 ⟨rfl, hb7⟩
                    have HR := Lib.hid (Below.next HB36.out hb7)
                    clear hb7
                    go_wp2
                    go_meet
                    case rel => exact ⟨by rw [HV.out], HR.out, fun h => absurd (HV.out.symm.trans h) (by decide)⟩
                  | true =>
                    rw [ho] at HOP HEQ
                    have HV := Lib.hid (show E = 0 from by rw [HEQ.out]; rfl)
                    clear ho
                    go_wp2_with fail
                    refine (HOP.out).mono ?_
                    rintro e w7 ⟨rfl, hb7⟩
                    have HR := Lib.hid (And.intro (Below.next HB36.out hb7) (HN6.out.keep hb7))
                    clear hb7
                    go_wp2
                    go_meet
                    case rel => exact ⟨by rw [HV.out, HE10.out], HR.out.1, fun _ => HR.out.2⟩
                · have q1 : (E1 == 0) = false := beq_eq_false_iff_ne.2 h0
                  have HV := Lib.hid (show E = E1 ∧ E ≠ 0 from by
                    have h := HSE.out
                    rw [if_neg h0] at h
                    exact ⟨h, by rw [h]; exact h0⟩)
                  clear h0
                  go_wp2
                  go_meet
                  case rel => exact ⟨by rw [HV.out.1], H34.out, fun h => absurd h HV.out.2⟩
            case rest =>
            obtain ⟨rfl, hb5, hN⟩ := hcut
            obtain ⟨w5, rfl⟩ : ∃ w5 : World, w5 = wc := ⟨_, rfl⟩
            have HB5 := Lib.hid (Below.next HB3.out hb5)
            have HM5 := Lib.hid (HM3.out.keep hb5)
            have HD5 := Lib.hid (HD3.out.keep hb5)
            have HST5 := Lib.hid (HST3.out.keep hb5)
            have HN := Lib.hid hN
            clear hb5 hN HB3 HM3 HD3 HST3 H34 HB4 HOW HPC HPF HSE HCZ hp1000
            have HBY := Lib.hid (kp_Bytes j u rec b s2 w5 HST5.out)
            have HSAY := Lib.hid (kp_Say j u rec b s2 aw an _ _ aS aT hld w5 HST5.out HU.out (HIT.out _ HB5.out).1 (HIT.out _ HB5.out).2 (HK.out.keep HB5.out) (HTB.out.keep HB5.out) (fun b' h => by have := HM5.out.lt.2; omega))
            go_wp2_with fail
            refine (HBY.out).mono ?_
            rintro e w' ⟨rfl, rfl⟩
            obtain ⟨g0, g1, g2, g3⟩ := HG.out _ HB5.out
            go_wp2_with fail
            refine (HSAY.out).mono ?_
            rintro e w6 ⟨hb6, hpost⟩
            have hw6 := HB5.out.trans (hb6.below HB5.out.size (fun b h => by have := HJW.out; omega))
            have HB6 := Lib.hid hw6
            have HM6 := Lib.hid (HM5.out.step hb6 hgj)
            have HD6 := Lib.hid (HD5.out.step hb6)
            have HN := Lib.hid (fun h : E = 0 => (HN.out h).step hb6)
            have HBD := Lib.hid HST5.out.bound
            clear hb6 hw6 g0 g1 g2 g3 HBY HSAY HB5 HM5 HD5
            rw [← HE.out] at hpost
            rcases hpost with ⟨rfl, b6, hst6⟩ | ⟨rfl, hne, hst6⟩ | ⟨rfl, hz, hlen, hst6⟩
            · -- it has stopped
              as_aux_lemma =>
                have HST6 := Lib.hid hst6
                have H66 := Lib.hid (show Calls Tryz.prog 15 #[.iface 59 (.int .i64 6), .int .i64 6] w6 (Keeps (.bool true) w6) from err_n 6 6 (by decide) w6 (HET.out.keep HB6.out))
                have H6E := Lib.hid (fun W (hW : Below w6.heap.size w6 W) => err_n 6 E (by decide) W (HET.out.keep (Below.next HB6.out hW)))
                generalize ((6 : Int) == E) = qE at H6E
                clear hst6 HN HST5
                go_wp2_with fail
                refine (H66.out).mono ?_
                rintro e w7 ⟨rfl, hb7⟩
                go_wp2_with fail
                refine (H6E.out _ hb7).mono ?_
                rintro e w8 ⟨rfl, hb8⟩
                have hb8 := Below.next hb7 hb8
                have HB8 := Lib.hid (Below.next HB6.out hb8)
                have HM8 := Lib.hid (HM6.out.keep hb8)
                have HD8 := Lib.hid (HD6.out.keep hb8)
                have HST8 := Lib.hid (HST6.out.keep hb8)
                clear hb7 hb8 H66 H6E HB6 HM6 HD6 HST6
                have HA8 := Lib.hid (kp_All j u rec b6 s2 w8 HST8.out)
                go_wp2_with fail
                refine (HA8.out).mono ?_
                rintro e wa ⟨Aa, ca, rfl, hba, hfa⟩
                have HSF := Lib.hid (same_Forms _ _ (saidF rec) wa hfa (HD8.out.keep hba).forms)
                have HOP := Lib.hid (fun W (hW : Below w8.heap.size w8 W) => kp_Open j u rec b6 s2 W (HST8.out.keep hW) (HK.out.keep (Below.next HB8.out hW)) HU.out)
                clear hfa
                go_wp2_with fail
                refine (HSF.out).mono ?_
                rintro e wb ⟨rfl, hbb⟩
                have hbb := Below.next hba hbb
                go_wp2_with fail
                refine (HOP.out _ hbb).mono ?_
                rintro e wd ⟨rfl, hbd⟩
                have hbd := Lib.hid (Below.next hbb hbd)
                clear hba hbb
                go_wp2
                go_roundw
                case rel => exact ⟨k + 1, x + 1, HKX.out.1, HKX.out.2, by go_num, by go_num, rec, b6, s2, g, cm, rfl, Below.next HB8.out hbd.out, hgj, HM8.out.keep hbd.out, HD8.out.keep hbd.out, HST8.out.keep hbd.out⟩
                case measure => have := HKX.out.2; simp [intOf]; omega
            · -- it is refused
              as_aux_lemma =>
                have HST6 := Lib.hid hst6
                have HE6 := Lib.hid (err_n E 6 hne w6 (HET.out.keep HB6.out))
                have HEE := Lib.hid (fun W (hW : Below w6.heap.size w6 W) => show Calls Tryz.prog 15 #[.iface 59 (.int .i64 E), .int .i64 E] W (Keeps (.bool true) W) from by
                  have h := err_n E E hne W (HET.out.keep (Below.next HB6.out hW))
                  rwa [beq_self_eq_true] at h)
                generalize (E == (6 : Int)) = qE at HE6
                clear hst6 HN hne HST5
                go_wp2_with fail
                refine (HE6.out).mono ?_
                rintro e w7 ⟨rfl, hb7⟩
                go_wp2_with fail
                refine (HEE.out _ hb7).mono ?_
                rintro e w8 ⟨rfl, hb8⟩
                have hb8 := Below.next hb7 hb8
                have HB8 := Lib.hid (Below.next HB6.out hb8)
                have HM8 := Lib.hid (HM6.out.keep hb8)
                have HD8 := Lib.hid (HD6.out.keep hb8)
                have HST8 := Lib.hid (HST6.out.keep hb8)
                clear hb7 hb8 HE6 HEE HB6 HM6 HD6 HST6
                cases qE
                all_goals
                  have HA8 := Lib.hid (kp_All j u rec b s2 w8 HST8.out)
                  go_wp2_with fail
                  refine (HA8.out).mono ?_
                  rintro e wa ⟨Aa, ca, rfl, hba, hfa⟩
                  have HSF := Lib.hid (same_Forms _ _ (saidF rec) wa hfa (HD8.out.keep hba).forms)
                  have HOP := Lib.hid (fun W (hW : Below w8.heap.size w8 W) => kp_Open j u rec b s2 W (HST8.out.keep hW) (HK.out.keep (Below.next HB8.out hW)) HU.out)
                  clear hfa
                  go_wp2_with fail
                  refine (HSF.out).mono ?_
                  rintro e wb ⟨rfl, hbb⟩
                  have hbb := Below.next hba hbb
                  go_wp2_with fail
                  refine (HOP.out _ hbb).mono ?_
                  rintro e wd ⟨rfl, hbd⟩
                  have hbd := Lib.hid (Below.next hbb hbd)
                  clear hba hbb
                  go_wp2
                  go_roundw
                  case rel => exact ⟨k + 1, x + 1, HKX.out.1, HKX.out.2, by go_num, by go_num, rec, b, s2, g, cm, rfl, Below.next HB8.out hbd.out, hgj, HM8.out.keep hbd.out, HD8.out.keep hbd.out, HST8.out.keep hbd.out⟩
                  case measure => have := HKX.out.2; simp [intOf]; omega
            · -- it is said
              as_aux_lemma =>
                subst hz
                obtain ⟨rN, hrN⟩ : ∃ r : List Rec, r = rec ++ [((⟨aw, aS, aT, an⟩ : Venn.Atom), hld)] := ⟨_, rfl⟩
                have hn0 := HN.out rfl
                rw [← hrN] at hlen hst6 hn0
                have HRN := Lib.hid hrN
                have HRL := Lib.hid (show rN.length = rec.length + 1 by rw [hrN]; simp)
                have HN0 := Lib.hid hn0
                clear hrN hn0
                obtain ⟨NA, nc, hu32, -, -⟩ := HN0.out.slice
                subst hu32
                obtain ⟨L, hL⟩ : ∃ L, L = (recsB rN).length := ⟨_, rfl⟩
                rw [← hL] at hlen hst6
                have HLL := Lib.hid hL
                have HST6 := Lib.hid hst6
                have H06 := Lib.hid (show Calls Tryz.prog 15 #[.nilIface, .int .i64 6] w6 (Keeps (.bool false) w6) from err_nil 6 w6 (HET.out.keep HB6.out))
                have H00 := Lib.hid (fun W (hW : Below w6.heap.size w6 W) => show Calls Tryz.prog 15 #[.nilIface, .int .i64 0] W (Keeps (.bool true) W) from err_nil 0 W (HET.out.keep (Below.next HB6.out hW)))
                have hbw : IntKind.i64.wrap ((b : Int) + 2) = (b : Int) + 2 := IntWalk.i64_in _ (by have := HBD.out; omega)
                have hnl : ¬ (L : Int) < (b : Int) + 2 := by omega
                clear hst6 HN hL hlen HD6 HST5
                go_wp2_with fail
                refine (H06.out).mono ?_
                rintro e w7 ⟨rfl, hb7⟩
                go_wp2_with fail
                refine (H00.out _ hb7).mono ?_
                rintro e w8 ⟨rfl, hb8⟩
                have hb8 := Below.next hb7 hb8
                have HB8 := Lib.hid (Below.next HB6.out hb8)
                have HM8 := Lib.hid (HM6.out.keep hb8)
                have HD8 := Lib.hid (HN0.out.keep hb8)
                have HST8 := Lib.hid (HST6.out.keep hb8)
                have HBY := Lib.hid (kp_Bytes j u _ L s2 w8 HST8.out)
                clear hb7 hb8 H06 H00 HB6 HM6 HN0 HST6
                go_wp2_with fail
                refine (HBY.out).mono ?_
                rintro e w' ⟨rfl, rfl⟩
                go_wp2_with fail
                refine (HBY.out).mono ?_
                rintro e w' ⟨rfl, rfl⟩
                have hal8 : Below w8.heap.size w8 (w8.alloc (.cells #[.int .i64 (L : Int)] 3)) := Below.laid (Below.refl _ _) _
                have hm8 : World.ownsRow (w8.alloc (.cells #[.int .i64 (L : Int)] 3)) w.heap.size 3 1 (.slice (some ⟨g, 0, none⟩) (rec.length + 1) cm) (rec.length + 1) ((marksL rec).map (Value.int .i64)) := World.ownsRow.alloc HM8.out _
                have hsz8 : w.heap.size ≤ (w8.alloc (.cells #[.int .i64 (L : Int)] 3)).heap.size := (Below.next HB8.out hal8).size
                have hr6 := HR6.out
                go_wp2_with (at_builtin; refine wpList_app1m _ rfl _ _ rfl w.heap.size (.slice (some ⟨g, 0, none⟩) (rec.length + 1) cm) (rec.length + 1) _ (by simp [go_sem]) hm8 w8.heap.size 1 (L : Int) (by simp [go_sem]) (by simp) (by omega) hsz8 ?_)
                intro v' w9 hown9 hgr9 hat9
                obtain ⟨g9, c9, rfl, -, -⟩ := World.ownsRow.form hown9 (by omega)
                have hgr : (w8.alloc (.cells #[.int .i64 (L : Int)] 3)).grownBy w9 (some g) := hgr9
                have hat : g9 = g ∨ g9 = (w8.alloc (.cells #[.int .i64 (L : Int)] 3)).heap.size := by
                  rcases hat9 with e | e
                  · have e : some g9 = some g := e
                    injection e with e
                    exact .inl e
                  · have e : some g9 = some (w8.heap.size + 1) := e
                    injection e with e
                    exact .inr (by rw [e]; simp)
                have HG9 := Lib.hid (show g9 ≠ j from by
                  rcases hat with e | e
                  · rw [e]; exact hgj
                  · have h1 := HST8.out.lt
                    have h2 := hal8.size
                    omega)
                have HM9 := Lib.hid (show KpM w.heap.size w9 g9 c9 rN from by
                  unfold KpM
                  rw [HRL.out]
                  have e : marksL rN = marksL rec ++ [(L : Int)] := by rw [HLL.out, HRN.out, marks_snoc]
                  rw [e, List.map_append]
                  exact hown9)
                have HD9 := Lib.hid ((HD8.out.keep hal8).but (g' := g9) (fun W hW => grown_but hgr hat hW))
                have HST9 := Lib.hid (KpSt.but (C' := fun b => b = g9) (HST8.out.keep hal8) (grown_blk hgr hgj) (fun W hW => grown_but hgr hat hW))
                have HB9 := Lib.hid ((Below.next HB8.out hal8).grown hgr hsz8 (fun b e => by injection e with e; subst e; exact HM8.out.lt.1))
                clear hown9 hgr9 hat9 hgr hat hal8 hm8 hsz8 hr6 HM8 HD8 HST8 HB8 HBY
                have HA9 := Lib.hid (kp_All j u rN L s2 w9 HST9.out)
                go_wp2_with fail
                refine (HA9.out).mono ?_
                rintro e wa ⟨Aa, ca, rfl, hba, hfa⟩
                have HSF := Lib.hid (same_Forms _ _ (saidF rN) wa hfa (HD9.out.keep hba).forms)
                have HOP := Lib.hid (fun W (hW : Below w9.heap.size w9 W) => kp_Open j u rN L s2 W (HST9.out.keep hW) (HK.out.keep (Below.next HB9.out hW)) HU.out)
                clear hfa
                go_wp2_with fail
                refine (HSF.out).mono ?_
                rintro e wb ⟨rfl, hbb⟩
                have hbb := Below.next hba hbb
                go_wp2_with fail
                refine (HOP.out _ hbb).mono ?_
                rintro e wd ⟨rfl, hbd⟩
                have hbd := Lib.hid (Below.next hbb hbd)
                clear hba hbb
                go_wp2
                go_roundw
                case rel => exact ⟨k + 1, x + 1, HKX.out.1, HKX.out.2, by go_num, by go_num, rN, L, s2, g9, c9, by rw [HRL.out], Below.next HB9.out hbd.out, HG9.out, HM9.out.keep hbd.out, HD9.out.keep hbd.out, HST9.out.keep hbd.out⟩
                case measure => have := HKX.out.2; simp [intOf]; omega
          -- INNER>
          · -- the inner loop's end
            go_upto_region 29 with (fail)
            go_cut [152] from 152 to 152 (fun z wx => wx = wo ∧ z = .bool false)
            case first =>
              as_aux_lemma =>
                by_cases hx : x < 6
                · have hx' : (x : Int) < 6 := by omega
                  have hkl : ¬ (k : Int) < (al.length : Int) := fun h => hin ⟨hx, by omega⟩
                  clear hin hx
                  go_wp2
                  go_meet
                  case rel => exact ⟨rfl, rfl⟩
                · have hx' : ¬ (x : Int) < 6 := by omega
                  clear hin hx
                  go_wp2
                  go_meet
                  case rel => exact ⟨rfl, rfl⟩
            case rest =>
            obtain ⟨rfl, rfl⟩ := hcut
            obtain ⟨w2, rfl⟩ : ∃ w2 : World, w2 = wc := ⟨_, rfl⟩
            clear hin hxw
            go_upto_if 268 with (fail)
            go_cut [37] from 265 to 272 (fun z wx => wx = w2 ∧ ∃ kp : Int, z = .int .i64 kp)
            case first =>
              as_aux_lemma =>
                by_cases hpl : rd < ks.length
                · have hpl' : (rd : Int) < (ks.length : Int) := by omega
                  obtain ⟨ad2, rfl, f0⟩ := HRP.out rd (.int .i64 ks[rd]) (by rw [List.getElem?_map, List.getElem?_eq_getElem hpl]; rfl)
                  have f0 := cell_keep HB.out f0
                  generalize ks[rd] = y at f0
                  go_wp2
                  go_meet
                  case rel => exact ⟨rfl, _, rfl⟩
                · have hpl' : ¬ (rd : Int) < (ks.length : Int) := by omega
                  go_wp2
                  go_meet
                  case rel => exact ⟨rfl, _, rfl⟩
            case rest =>
            obtain ⟨rfl, kp, rfl⟩ := hcut
            obtain ⟨w3, rfl⟩ : ∃ w3 : World, w3 = wc := ⟨_, rfl⟩
            have HBY := Lib.hid (kp_Bytes j u rec b s w3 HST.out)
            have HSA := Lib.hid (kp_Safe j u rec b s w3 HST.out)
            have HCR := Lib.hid (kp_Crash j u rec b s kp w3 HST.out)
            have HBD := Lib.hid HST.out.bound
            go_wp2_with fail
            refine (HBY.out).mono ?_
            rintro e w' ⟨rfl, rfl⟩
            go_wp2_with fail
            refine (HSA.out).mono ?_
            rintro e w' ⟨rfl, rfl⟩
            go_wp2_with fail
            refine (HCR.out).mono ?_
            rintro e w4 ⟨rfl, hb4, hst4⟩
            obtain ⟨Lf, hLf⟩ : ∃ L, L = leftN rec b s kp := ⟨_, rfl⟩
            rw [← hLf] at hst4
            obtain ⟨M, hM⟩ : ∃ M : Int, M = (keptM b s kp : Int) := ⟨_, rfl⟩
            have hLe : Lf ≤ rec.length := by rw [hLf]; exact leftN_le _ _ _ _
            have HMK := Lib.hid (show ∀ n, n ≤ rec.length → (((recsB (rec.take n)).length : Int) ≤ M ↔ n ≤ Lf) from fun n hn => by rw [hM, hLf]; exact marks_le hn)
            have HMV := Lib.hid (show M = (s : Int) + max 0 (min kp ((b : Int) - (s : Int))) from by
              rw [hM]
              unfold keptM
              omega)
            have HTL := Lib.hid (show (rec.take Lf).length = Lf by rw [List.length_take]; omega)
            obtain ⟨m, hm⟩ : ∃ m, m = (recsB (rec.take Lf)).length := ⟨_, rfl⟩
            rw [← hm] at hst4
            have HB4 := Lib.hid (HB.out.trans (hb4.below HB.out.size (fun b h => by have := HJW.out; omega)))
            have HM4 := Lib.hid (HM.out.step hb4 hgj)
            have HD4 := Lib.hid ((HD.out.step hb4).take hLe)
            have HST4 := Lib.hid hst4
            have f0 := HM4.out.cell hLe
            rw [← hm] at f0
            have HF0 := Lib.hid f0
            have HLE := Lib.hid hLe
            have hcm := HM4.out.cap
            have HWS := Lib.hid (show s ≤ b ∧ b ≤ 700 from ⟨HBD.out.1, HBD.out.2.1⟩)
            have hbs : IntKind.i64.wrap ((b : Int) - (s : Int)) = (b : Int) - (s : Int) := IntWalk.i64_in _ (by have := HWS.out; omega)
            clear HBY HSA HCR HB HM HD HST hb4 hst4 hLf hM hLe hm f0
            obtain ⟨q, hq⟩ : ∃ q : Bool, q = decide (0 < kp ∧ kp < (b : Int) - (s : Int)) := ⟨_, rfl⟩
            have HQ := Lib.hid hq
            clear hq
            go_upto_region 65 with (fail)
            go_cut [289] from 289 to 289 (fun z wx => wx = w4 ∧ z = .bool q)
            case first =>
              as_aux_lemma =>
                by_cases h1 : 0 < kp
                · by_cases h2 : kp < (b : Int) - (s : Int)
                  · have HV := Lib.hid (show q = true by rw [HQ.out]; simp [h1, h2])
                    go_wp2
                    go_meet
                    case rel => exact ⟨rfl, by rw [HV.out]⟩
                  · have HV := Lib.hid (show q = false by rw [HQ.out]; simp [h2])
                    go_wp2
                    go_meet
                    case rel => exact ⟨rfl, by rw [HV.out]⟩
                · have HV := Lib.hid (show q = false by rw [HQ.out]; simp [h1])
                  go_wp2
                  go_meet
                  case rel => exact ⟨rfl, by rw [HV.out]⟩
            case rest =>
            obtain ⟨rfl, rfl⟩ := hcut
            obtain ⟨w4, rfl⟩ : ∃ w4 : World, w4 = wc := ⟨_, rfl⟩
            go_upto_if 289 with (fail)
            go_cut [40] from 281 to 295 (fun z wx => wx = w4 ∧ z = .int .i64 M)
            case first =>
              as_aux_lemma =>
                cases q
                · by_cases h1 : 0 < kp
                  · have HV := Lib.hid (show M = (b : Int) by
                      have h := HQ.out
                      simp only [Bool.false_eq, decide_eq_false_iff_not, not_and] at h
                      have h2 := h h1
                      have h3 := HWS.out
                      rw [HMV.out]
                      omega)
                    go_wp2
                    go_meet
                    case rel => exact ⟨rfl, by rw [HV.out]⟩
                  · have HV := Lib.hid (show M = (s : Int) by
                      have h3 := HWS.out
                      rw [HMV.out]
                      omega)
                    go_wp2
                    go_meet
                    case rel => exact ⟨rfl, by rw [HV.out]⟩
                · have HV := Lib.hid (show M = (s : Int) + kp ∧ IntKind.i64.wrap ((s : Int) + kp) = (s : Int) + kp by
                    have h := HQ.out
                    simp only [Bool.true_eq, decide_eq_true_eq] at h
                    have h3 := HWS.out
                    refine ⟨?_, IntWalk.i64_in _ (by omega)⟩
                    rw [HMV.out]
                    omega)
                  have hwk := HV.out.2
                  go_wp2
                  go_meet
                  case rel => exact ⟨rfl, by rw [HV.out.1]⟩
            case rest =>
            obtain ⟨rfl, rfl⟩ := hcut
            obtain ⟨w4, rfl⟩ : ∃ w4 : World, w4 = wc := ⟨_, rfl⟩
            clear HQ HMV hbs
            go_wp2
            go_loopw [41, 42] (fun lf i wr => ∃ n : Nat, n ≤ rec.length + 1 ∧ i = .int .i64 n ∧ lf = .int .i64 ((min (n - 1) Lf : Nat) : Int) ∧ wr = w4) (fun _ i _ => rec.length + 1 - (intOf i).toNat)
            case atStart => exact ⟨0, Nat.zero_le _, rfl, by simp, rfl⟩
            case round =>
              as_aux_lemma =>
                obtain ⟨n, hn, rfl, rfl, hwr⟩ := hrel
                subst hwr
                obtain ⟨w4, rfl⟩ : ∃ w4 : World, w4 = wr := ⟨_, rfl⟩
                have hnw : IntKind.i64.wrap ((n : Int) + 1) = (n : Int) + 1 := IntWalk.i64_in _ (by have := HR6.out; omega)
                by_cases hlt : n < rec.length + 1
                · have hlt' : (n : Int) < ((rec.length + 1 : Nat) : Int) := by omega
                  have hlt2 : (n : Int) < (rec.length : Int) + 1 := by omega
                  have hn0 : (0 : Int) ≤ (n : Int) := by omega
                  have HNL := Lib.hid hlt
                  have hc := HM4.out.cell (i := n) (by omega)
                  have hmk := HMK.out n (by omega)
                  generalize (recsB (rec.take n)).length = mk at hc hmk
                  have hc2 : w4.cell? ((⟨g, 0, none⟩ : Addr).add n) = some (.int .i64 (mk : Int)) := by
                    rw [show (⟨g, 0, none⟩ : Addr).add n = ⟨g, n, none⟩ by unfold Addr.add; split <;> simp_all]
                    exact hc
                  by_cases hle : n ≤ Lf
                  · have hmk' : (mk : Int) ≤ M := hmk.2 hle
                    have HV := Lib.hid (show (min (n + 1 - 1) Lf : Nat) = n by omega)
                    clear hmk hle
                    go_wp2
                    go_roundw
                    case rel => exact ⟨n + 1, by have := HNL.out; omega, by go_num, by rw [HV.out], (by first | rfl | trivial)⟩
                    case measure => have := HNL.out; simp [intOf]; omega
                  · have hmk' : ¬ (mk : Int) ≤ M := fun h => hle (hmk.1 h)
                    have HV := Lib.hid (show (min (n + 1 - 1) Lf : Nat) = (min (n - 1) Lf : Nat) by omega)
                    clear hmk hle
                    go_wp2
                    go_roundw
                    case rel => exact ⟨n + 1, by have := HNL.out; omega, by go_num, by rw [HV.out], (by first | rfl | trivial)⟩
                    case measure => have := HNL.out; simp [intOf]; omega
                · have hlt' : ¬ (n : Int) < ((rec.length + 1 : Nat) : Int) := by omega
                  have hlt2 : ¬ (n : Int) < (rec.length : Int) + 1 := by omega
                  have hle := HLE.out
                  have hmin : (min (n - 1) Lf : Nat) = Lf := by omega
                  rw [hmin]
                  have hL0 : (0 : Int) ≤ (Lf : Int) := by omega
                  have hLw : IntKind.i64.wrap ((Lf : Int) + 1) = (Lf : Int) + 1 := IntWalk.i64_in _ (by have := HR6.out; omega)
                  have hL1 : (0 : Int) ≤ (Lf : Int) + 1 := by omega
                  have hLd : (Lf : Int) ≤ (dc : Int) := by omega
                  have hLd2 : Lf ≤ dc := by omega
                  have hLm : (Lf : Int) + 1 ≤ (cm : Int) := by omega
                  have hLm2 : Lf + 1 ≤ cm := by omega
                  have hLn : ((Lf : Int) + 1).toNat = Lf + 1 := by omega
                  have hL2 : (Lf : Int) < (Lf : Int) + 1 := by omega
                  have hL3 : (Lf : Int) < ((Lf + 1 : Nat) : Int) := by omega
                  have hf1 := HF0.out
                  have hf2 : w4.cell? ((⟨g, 0, none⟩ : Addr).add Lf) = some (.int .i64 (m : Int)) := by
                    rw [show (⟨g, 0, none⟩ : Addr).add Lf = ⟨g, Lf, none⟩ by unfold Addr.add; split <;> simp_all]
                    exact hf1
                  have HALL := Lib.hid (fun W (hW : Below w4.heap.size w4 W) => kp_All j u (rec.take Lf) m m W (HST4.out.keep hW))
                  have HSF := Lib.hid (fun W v (hW : Below w4.heap.size w4 W) (hf : IsForms W v (saidF (rec.take Lf))) => same_Forms v _ (saidF (rec.take Lf)) W hf (HD4.out.keep hW).forms)
                  have HBY := Lib.hid (fun W (hW : Below w4.heap.size w4 W) => kp_Bytes j u (rec.take Lf) m m W (HST4.out.keep hW))
                  have HSA := Lib.hid (fun W (hW : Below w4.heap.size w4 W) => kp_Safe j u (rec.take Lf) m m W (HST4.out.keep hW))
                  rw [HTL.out] at HALL
                  clear hmin hnw hlt hn hle hdc
                  go_upto_region 77 with (fail)
                  have hd1 : w4.drew.cell? { block := g, off := Lf } = some (Value.int IntKind.i64 m) := hf1
                  have hd2 : w4.drew.cell? ((⟨g, 0, none⟩ : Addr).add Lf) = some (Value.int IntKind.i64 m) := hf2
                  go_region_held3 (fun w' => w'.cell? ((⟨g, 0, none⟩ : Addr).add Lf) = some (Value.int IntKind.i64 m) ∧ w'.cell? { block := g, off := Lf } = some (Value.int IntKind.i64 m))
                    (first | with_reducible exact ⟨hf2, hf1⟩ | with_reducible exact ⟨hd2, hd1⟩ | with_reducible exact ⟨a2, a1⟩ | with_reducible exact ⟨k2, k1⟩)
                    (first
                    | (go_at_call 10; refine (HALL.out _ (Below.refl _ _).drew).mono ?_; rintro e wa ⟨Aa, ca, rfl, hba, hfa⟩; have hqa : Below w4.heap.size w4 wa := (Below.next (Below.refl _ _).drew hba); have a1 := cell_keep hqa hf1; have a2 := cell_keep hqa hf2)
                    | (go_at_call 23; refine (HSF.out _ _ hqa hfa).mono ?_; rintro e wb ⟨rfl, hbb⟩; have hqb := Below.next hqa hbb; have k1 := cell_keep hqb hf1; have k2 := cell_keep hqb hf2)
                    | (go_at_call 17; refine (HBY.out _ hqb).mono ?_; rintro e w' ⟨rfl, rfl⟩)
                    | (go_at_call 18; refine (HSA.out _ hqb).mono ?_; rintro e w' ⟨rfl, rfl⟩))
                  all_goals
                    have HQB := Lib.hid hqb
                    clear hqa hqb hba hbb hfa k1 k2 hf1 hf2 hd1 hd2 a1 a2
                    go_wp2
                    go_roundw
                    case rel => exact ⟨k, rd + 1, hk, by omega, by go_num, by go_num, rec.take Lf, m, m, g, cm, by rw [HTL.out], Below.next HB4.out HQB.out, hgj, (HM4.out.take HLE.out).keep HQB.out, HD4.out.keep HQB.out, HST4.out.keep HQB.out⟩
                    case measure => simp [intOf]; omega
      · have hex : ¬ rd ≤ fs.length ∨ (rd ≤ fs.length ∧ ¬ rd < 4) := by
          by_cases h : rd ≤ fs.length
          · exact .inr ⟨h, fun h8 => hin ⟨h, h8⟩⟩
          · exact .inl h
        clear hin
        rcases hex with hx | ⟨hx, hy⟩
        · have hx' : ¬ (rd : Int) ≤ (fs.length : Int) := by omega
          go_wp2
          go_ret
          exact ⟨rfl, HB.out⟩
        · have hx' : (rd : Int) ≤ (fs.length : Int) := by omega
          have hy' : ¬ (rd : Int) < 4 := by omega
          go_wp2
          go_ret
          exact ⟨rfl, HB.out⟩
end Go.Proofs.YtjnjgcibhjdmdaaGreatDoor
