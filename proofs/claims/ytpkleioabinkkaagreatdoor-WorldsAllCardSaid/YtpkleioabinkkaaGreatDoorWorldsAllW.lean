/-
  THE WALK of vennlaw2.WorldsAll.
-/
import Derived.Test.YtpkleioabinkkaaGreatDoorVennAlls
import Derived.Test.YtpkleioabinkkaaGreatDoorModelS
import Derived.Test.YtpkleioabinkkaaGreatDoorFormHolds
import Derived.Deep.DeepCutAuto
namespace Go.Proofs.YtpkleioabinkkaaGreatDoor
open Go.RowKit

/-- The law's two boxes lie. -/
structure WaAt (w wx : World) (sa sc th a b d : Value) : Prop where
  below : Below w.heap.size w wx
  form : Blk wx w.heap.size 25 #[sa, sc]
  world : Blk wx (w.heap.size + 1) 28 #[th, a, b, d]
theorem WaAt.keep {w wx wy : World} {sa sc th a b d : Value} (h : WaAt w wx sa sc th a b d) (hb : Below wx.heap.size wx wy) : WaAt w wy sa sc th a b d := ⟨Below.next h.below hb, h.form.keep hb, h.world.keep hb⟩
theorem WaAt.alloc {w wx : World} {sa sc th a b d : Value} (h : WaAt w wx sa sc th a b d) (o : Obj) : WaAt w (wx.alloc o) sa sc th a b d := h.keep ((Below.refl _ _).alloc (Nat.le_refl _) o)
set_option maxHeartbeats 8000000 in
set_option maxRecDepth 100000 in
theorem worldsAll_walk (sa sc : Value) (l : List Venn.Atom) (c : List Int) (u th a b d : Int) (w : World) (ha : IsAtoms w sa l) (hc : IsInts w sc c) (hk : KindsOk w) (het : EtOk w) :
    Calls Tryz.prog 10 #[.agg #[sa, sc], .int .i64 u, .agg #[.int .i64 th, .int .i64 a, .int .i64 b, .int .i64 d]] w (Keeps (.bool true) w) := by
  have HA := Lib.hid ha
  have HC := Lib.hid hc
  have HK := Lib.hid hk
  have HET := Lib.hid het
  obtain ⟨A, cA, rfl, _⟩ := ha
  obtain ⟨C, cC, rfl, _⟩ := hc
  have HWF := Lib.hid (fun W (hW : Below w.heap.size w W) => worlds_Of _ _ l c u W (HA.out.keep hW) (HC.out.keep hW) (HK.out.keep hW))
  have HNG := Lib.hid (fun W (hW : Below w.heap.size w W) => form_Negate _ _ l c W (HA.out.keep hW) (HC.out.keep hW) (HK.out.keep hW))
  have HMO := Lib.hid (fun W (hW : Below w.heap.size w W) => model_Of _ _ l c u W (HA.out.keep hW) (HC.out.keep hW) (HK.out.keep hW))
  have HFH := Lib.hid (fun W (hW : Below w.heap.size w W) => form_Holds _ _ l c th a b d W (HA.out.keep hW) (HC.out.keep hW) (HK.out.keep hW))
  have HA2 := Lib.hid (fun W => worlds_All 2 W)
  rw [Venn.worlds_lits.1, Venn.worlds_lits.2.1, errV_zero rfl] at HA2
  have HK2 := Lib.hid (fun W => worlds_Alike 2 1 0 0 W)
  rw [Venn.worlds_lits.2.2.1, Venn.worlds_lits.2.2.2, errV_zero rfl] at HK2
  have HAU := Lib.hid (fun W => worlds_All u W)
  have HAK := Lib.hid (fun W => worlds_Alike th a b d W)
  have HER := Lib.hid (fun (e : Int) W (hW : Below w.heap.size w W) => vennsame_Error e 5 W (HET.out.keep hW))
  have HNV := Lib.hid (show Venn.negChk ⟨l, c⟩ = 0 → negV ⟨l, c⟩ = Venn.negF ⟨l, c⟩ from fun h => by rw [negV, if_pos h])
  have HT0 := Lib.hid (show WaAt w ((w.alloc (.cells #[.slice A l.length cA, .slice C c.length cC] 25)).alloc (.cells #[.int .i64 th, .int .i64 a, .int .i64 b, .int .i64 d] 28)) (.slice A l.length cA) (.slice C c.length cC) (.int .i64 th) (.int .i64 a) (.int .i64 b) (.int .i64 d) from ⟨by (repeat' (first | (with_reducible exact Below.refl _ _) | (with_reducible assumption) | (with_reducible refine Below.next ?_ (by with_reducible assumption)) | (with_reducible refine Below.drew ?_) | (with_reducible refine Below.laid ?_ _) | (with_reducible refine Below.setCell ?_ ?_ _) | (with_reducible refine size_of ?_) | (with_reducible refine Nat.le_succ_of_le ?_) | go_size)), (Blk.new w _ _).alloc _, Blk.newAt (by simp) _ _⟩)
  have HVv := Lib.hid (show worldsVv ⟨l, c⟩ u = .tuple #[.int .i64 (Venn.worldsV ⟨l, c⟩ u), errV (Venn.worldsChk ⟨l, c⟩ u)] from rfl)
  rw [HVv.out] at HWF
  clear HVv hk het
  by_cases hw : Venn.worldsChk ⟨l, c⟩ u = 0
  · have HP0 := Lib.hid (Venn.worlds_facts hw)
    have HP1 := Lib.hid (fun (hn : Venn.negChk ⟨l, c⟩ = 0) => Venn.worlds_neg hw hn)
    have HP2 := Lib.hid (Venn.worlds_model hw)
    have HP3 := Lib.hid (fun (hh : Venn.formHoldsChk ⟨l, c⟩ ⟨th, a, b, d⟩ = 0) (ht : th = u) => show 1 ≤ Venn.alikeW ⟨th, a, b, d⟩ ∧ Venn.alikeW ⟨th, a, b, d⟩ ≤ Venn.allV u ∧ (Venn.formHoldsV ⟨l, c⟩ ⟨th, a, b, d⟩ = true → Venn.alikeW ⟨th, a, b, d⟩ ≤ Venn.worldsV ⟨l, c⟩ u) ∧ (Venn.formHoldsV ⟨l, c⟩ ⟨th, a, b, d⟩ = false → Venn.alikeW ⟨th, a, b, d⟩ ≤ Venn.allV u - Venn.worldsV ⟨l, c⟩ u) by
      obtain ⟨h1, h2, h3⟩ := Venn.holds_parts hh
      rw [h3]
      exact Venn.worlds_alike hw h2 ht)
    have HNO := Lib.hid (fun sa sc W (hW : Below w.heap.size w W) (h1 : IsAtoms W sa (Venn.negF ⟨l, c⟩).atoms) (h2 : IsInts W sc (Venn.negF ⟨l, c⟩).code) => worlds_Of sa sc (Venn.negF ⟨l, c⟩).atoms (Venn.negF ⟨l, c⟩).code u W h1 h2 (HK.out.keep hW))
    have HNW := Lib.hid (show ∀ h : Venn.negChk ⟨l, c⟩ = 0, worldsVv ⟨(Venn.negF ⟨l, c⟩).atoms, (Venn.negF ⟨l, c⟩).code⟩ u = .tuple #[.int .i64 (Venn.worldsV (Venn.negF ⟨l, c⟩) u), .nilIface] from fun h => by
      show Value.tuple #[.int .i64 (Venn.worldsV (Venn.negF ⟨l, c⟩) u), errV (Venn.worldsChk (Venn.negF ⟨l, c⟩) u)] = _
      rw [errV_zero (HP1.out h).1])
    have HP1 := Lib.hid (fun h => (HP1.out h).2)
    rw [HP0.out.1, errV_zero rfl] at HAU
    rw [hw, errV_zero rfl] at HWF
    have HP0 := Lib.hid HP0.out.2
    clear hw
    generalize Venn.worldsV ⟨l, c⟩ u = WV at HWF HP0 HP1 HP2 HP3
    generalize Venn.allV u = AL at HAU HP0 HP1 HP3
    generalize Venn.alikeW ⟨th, a, b, d⟩ = KV at HAK HP3
    generalize Venn.worldChk ⟨th, a, b, d⟩ = WK at HAK
    generalize Venn.formHoldsV ⟨l, c⟩ ⟨th, a, b, d⟩ = HV at HFH HP3
    generalize Venn.formHoldsChk ⟨l, c⟩ ⟨th, a, b, d⟩ = HE at HFH HP3
    generalize Venn.modelErr ⟨l, c⟩ u = ME at HMO HP2
    generalize Venn.modelV ⟨l, c⟩ u = MV at HMO
    obtain ⟨mt, ma, mb, mc⟩ := MV
    obtain ⟨n0, n1, n2⟩ := HP0.out
    have hn0 : ¬ WV < 0 := by omega
    have hn1 : ¬ AL < WV := by omega
    go_enter Tryz.func10, Tryz.ntmps10
    go_upto_region 1 with (fail)
    revert HT0
    generalize (w.alloc (.cells #[.slice A l.length cA, .slice C c.length cC] 25)).alloc (.cells #[.int .i64 th, .int .i64 a, .int .i64 b, .int .i64 d] 28) = w0
    intro HT0
    go_wp2_with fail
    refine (HA2.out _).mono ?_
    rintro e w' ⟨rfl, rfl⟩
    go_wp2_with fail
    refine (HK2.out _).mono ?_
    rintro e w1 ⟨rfl, hb1⟩
    have HT1 := Lib.hid (HT0.out.keep hb1)
    clear hb1 HT0 HA2 HK2
    have b0 := HT1.out.form.cell 0
    have b1 := HT1.out.form.cell 1
    simp at b0 b1
    go_wp2_with fail
    refine (HWF.out _ HT1.out.below).mono ?_
    rintro e w2 ⟨rfl, hb2⟩
    have HT2 := Lib.hid (HT1.out.keep hb2)
    clear b0 b1 hb2 HT1 HWF
    go_wp2_with fail
    refine (HAU.out _).mono ?_
    rintro e w' ⟨rfl, rfl⟩
    have b0 := HT2.out.form.cell 0
    have b1 := HT2.out.form.cell 1
    simp at b0 b1
    go_wp2_with fail
    refine (HNG.out _ HT2.out.below).mono ?_
    rintro e w3 ⟨NA, kNA, NO, kNO, rfl, hb3, hna, hno⟩
    have HT3 := Lib.hid (HT2.out.keep hb3)
    have HNA := Lib.hid hna
    have HNO2 := Lib.hid hno
    clear b0 b1 hb3 hna hno HT2 HNG HAU
    go_upto_region 12 with (fail)
    have HT4 := Lib.hid (HT3.out.alloc (.cells #[.slice NA (negV ⟨l, c⟩).atoms.length kNA, .slice NO (negV ⟨l, c⟩).code.length kNO] 25))
    have HG4 := Lib.hid (Blk.new w3 25 #[.slice NA (negV ⟨l, c⟩).atoms.length kNA, .slice NO (negV ⟨l, c⟩).code.length kNO])
    have hb4 : Below w3.heap.size w3 (w3.alloc (.cells #[.slice NA (negV ⟨l, c⟩).atoms.length kNA, .slice NO (negV ⟨l, c⟩).code.length kNO] 25)) := by (repeat' (first | (with_reducible exact Below.refl _ _) | (with_reducible assumption) | (with_reducible refine Below.next ?_ (by with_reducible assumption)) | (with_reducible refine Below.drew ?_) | (with_reducible refine Below.laid ?_ _) | (with_reducible refine Below.setCell ?_ ?_ _) | (with_reducible refine size_of ?_) | (with_reducible refine Nat.le_succ_of_le ?_) | go_size))
    obtain ⟨V1, hV1⟩ : ∃ V, V = errV (Venn.negChk ⟨l, c⟩) := ⟨_, rfl⟩
    rw [← hV1]
    have HV1 := Lib.hid hV1
    clear hV1
    obtain ⟨BB, hBB⟩ : ∃ BB : Bool, BB = decide (Venn.negChk ⟨l, c⟩ = 0) := ⟨_, rfl⟩
    have HBB := Lib.hid hBB
    clear hBB
    have HQ4 := Lib.hid (And.intro HT4.out (And.intro HG4.out hb4))
    revert HQ4 HT4 HG4 hb4
    generalize w3.alloc (.cells #[.slice NA (negV ⟨l, c⟩).atoms.length kNA, .slice NO (negV ⟨l, c⟩).code.length kNO] 25) = w4
    intro HT4 HG4 hb4 HQ4
    go_cut [74] (fun z wx => z = .bool BB ∧ wx = w4)
    case first =>
      by_cases hn : Venn.negChk ⟨l, c⟩ = 0
      · obtain rfl : V1 = .nilIface := by rw [HV1.out, errV_zero hn]
        have hb := decide_eq_true hn
        have HB1 := Lib.hid (HBB.out.trans hb)
        clear hn hb
        go_wp2
        go_meet
        case rel => exact ⟨by rw [HB1.out], rfl⟩
      · obtain rfl : V1 = .iface 86 (.int .i64 (Venn.negChk ⟨l, c⟩)) := by rw [HV1.out, errV_ne hn]
        have hb := decide_eq_false hn
        have HB1 := Lib.hid (HBB.out.trans hb)
        clear hn hb
        go_wp2
        go_meet
        case rel => exact ⟨by rw [HB1.out], rfl⟩
    case rest =>
    obtain ⟨rfl, hwc⟩ := hcut
    subst hwc
    go_upto_if 74 with (fail)
    go_cut [16, 17] (fun x y wx => WaAt w wx (.slice A l.length cA) (.slice C c.length cC) (.int .i64 th) (.int .i64 a) (.int .i64 b) (.int .i64 d))
    case first =>
      cases BB
      · go_wp2
        go_meet
        case rel => exact HQ4.out.1
      · have hn : Venn.negChk ⟨l, c⟩ = 0 := of_decide_eq_true HBB.out.symm
        rw [HNV.out hn] at HNA HNO2 HQ4
        have HT4 := Lib.hid HQ4.out.1
        have HG4 := Lib.hid HQ4.out.2.1
        have hb4 := HQ4.out.2.2
        have HM := Lib.hid (HNO.out _ _ _ HT4.out.below (HNA.out.keep hb4) (HNO2.out.keep hb4))
        rw [HNW.out hn] at HM
        have HS := Lib.hid (HP1.out hn)
        clear hn HNV HV1 HP1 HNW HNO hb4 HBB
        generalize Venn.worldsV (Venn.negF ⟨l, c⟩) u = MW at HM HS
        have g0 := HG4.out.cell 0
        have g1 := HG4.out.cell 1
        simp at g0 g1
        have hws : IntKind.i64.wrap (WV + MW) = AL := by rw [HS.out]; exact IntWalk.i64_in _ (by omega)
        go_wp2_with fail
        refine (HM.out).mono ?_
        rintro e w5 ⟨rfl, hb5⟩
        have HT5 := Lib.hid (HT4.out.keep hb5)
        clear g0 g1 hb5
        go_wp2
        go_meet
        case rel => exact HT5.out
    case rest =>
    obtain ⟨w5, rfl⟩ : ∃ w5 : World, w5 = wc := ⟨_, rfl⟩
    have HT5 := Lib.hid hcut
    clear hcut HQ4 HT4 HT3 HG4 hb4 HNA HNO2 HNO HNW HP1 HNV HV1 HBB
    have b0 := HT5.out.form.cell 0
    have b1 := HT5.out.form.cell 1
    simp at b0 b1
    go_wp2_with fail
    refine (HMO.out _ HT5.out.below).mono ?_
    rintro e w6 ⟨he, hb6⟩
    simp only [worldM] at he
    subst he
    have HT6 := Lib.hid (HT5.out.keep hb6)
    clear b0 b1 hb6 HT5 HMO
    obtain ⟨V2, hV2⟩ : ∃ V, V = errV ME := ⟨_, rfl⟩
    rw [← hV2]
    have HV2 := Lib.hid hV2
    clear hV2
    go_upto_region 17 with (fail)
    go_cut [109] (fun z wx => z = .bool false ∧ WaAt w wx (.slice A l.length cA) (.slice C c.length cC) (.int .i64 th) (.int .i64 a) (.int .i64 b) (.int .i64 d))
    case first =>
      have HM0 := Lib.hid (HER.out ME _ HT6.out.below)
      by_cases h0 : ME = 0
      · have hz : (WV == 0) = false := beq_eq_false_iff_ne.2 (HP2.out.1 h0)
        obtain rfl : V2 = .nilIface := by rw [HV2.out, errV_zero h0]
        rw [h0, errV_zero rfl] at HM0
        clear h0 HV2
        go_wp2_with fail
        refine (HM0.out).mono ?_
        rintro e w7 ⟨rfl, hb7⟩
        have HT7 := Lib.hid (HT6.out.keep hb7)
        go_wp2
        go_meet
        case rel => exact ⟨rfl, HT7.out⟩
      · by_cases h5 : ME = 5
        · have hz : (WV != 0) = false := by rw [HP2.out.2 h5]; rfl
          obtain rfl : V2 = .iface 86 (.int .i64 5) := by rw [HV2.out, h5, errV_ne (by decide)]
          rw [h5, errV_ne (show (5 : Int) ≠ 0 by decide)] at HM0
          clear h0 h5 HV2
          go_wp2_with fail
          refine (HM0.out).mono ?_
          rintro e w7 ⟨rfl, hb7⟩
          have HT7 := Lib.hid (HT6.out.keep hb7)
          go_wp2
          go_meet
          case rel => exact ⟨rfl, HT7.out⟩
        · obtain rfl : V2 = .iface 86 (.int .i64 ME) := by rw [HV2.out, errV_ne h0]
          rw [errV_ne h0, show (ME == 5) = false from beq_eq_false_iff_ne.2 h5] at HM0
          clear h0 h5 HV2
          go_wp2_with fail
          refine (HM0.out).mono ?_
          rintro e w7 ⟨rfl, hb7⟩
          have HT7 := Lib.hid (HT6.out.keep hb7)
          go_wp2
          go_meet
          case rel => exact ⟨rfl, HT7.out⟩
    case rest =>
    obtain ⟨rfl, htl⟩ := hcut
    obtain ⟨w7, rfl⟩ : ∃ w7 : World, w7 = wc := ⟨_, rfl⟩
    have HT7 := Lib.hid htl
    clear htl HT6 HP2 HV2 HER
    obtain ⟨c0, c1, c2, c3⟩ := HT7.out.world.cells4
    go_wp2_with fail
    refine (HAK.out _).mono ?_
    rintro e w8 ⟨rfl, hb8⟩
    have HT8 := Lib.hid (HT7.out.keep hb8)
    clear c0 c1 c2 c3 hb8 HT7 HAK
    have b0 := HT8.out.form.cell 0
    have b1 := HT8.out.form.cell 1
    obtain ⟨c0, c1, c2, c3⟩ := HT8.out.world.cells4
    simp at b0 b1
    go_wp2_with fail
    refine (HFH.out _ HT8.out.below).mono ?_
    rintro e w9 ⟨rfl, hb9⟩
    have HT9 := Lib.hid (HT8.out.keep hb9)
    clear b0 b1 c0 c1 c2 c3 hb9 HT8 HFH
    obtain ⟨c0, c1, c2, c3⟩ := HT9.out.world.cells4
    by_cases hk : WK = 0
    · rw [errV_zero hk]
      clear hk
      by_cases he : HE = 0
      · rw [errV_zero he]
        by_cases ht : th = u
        · obtain ⟨k0, k1, k2, k3⟩ := HP3.out he ht
          have ht1 : (th != u) = false := by rw [ht]; simp
          have hwd : IntKind.i64.wrap (AL - WV) = AL - WV := IntWalk.i64_in _ (by omega)
          clear he ht HP3
          cases HV
          · have k4 := k3 rfl
            clear k2 k3
            go_wp2
            go_ret
            exact ⟨rfl, HT9.out.below⟩
          · have k4 := k2 rfl
            clear k2 k3
            go_wp2
            go_ret
            exact ⟨rfl, HT9.out.below⟩
        · have ht1 : (th != u) = true := bne_iff_ne.2 ht
          clear he ht HP3
          go_wp2
          go_ret
          exact ⟨rfl, HT9.out.below⟩
      · rw [errV_ne he]
        clear he HP3
        go_wp2
        go_ret
        exact ⟨rfl, HT9.out.below⟩
    · rw [errV_ne hk]
      clear hk HP3
      go_wp2
      go_ret
      exact ⟨rfl, HT9.out.below⟩
  · rw [errV_ne hw] at HWF
    clear hw
    go_enter Tryz.func10, Tryz.ntmps10
    go_upto_region 1 with (fail)
    revert HT0
    generalize (w.alloc (.cells #[.slice A l.length cA, .slice C c.length cC] 25)).alloc (.cells #[.int .i64 th, .int .i64 a, .int .i64 b, .int .i64 d] 28) = w0
    intro HT0
    go_wp2_with fail
    refine (HA2.out _).mono ?_
    rintro e w' ⟨rfl, rfl⟩
    go_wp2_with fail
    refine (HK2.out _).mono ?_
    rintro e w1 ⟨rfl, hb1⟩
    have HT1 := Lib.hid (HT0.out.keep hb1)
    clear hb1 HT0 HA2 HK2
    have b0 := HT1.out.form.cell 0
    have b1 := HT1.out.form.cell 1
    simp at b0 b1
    go_wp2_with fail
    refine (HWF.out _ HT1.out.below).mono ?_
    rintro e w2 ⟨rfl, hb2⟩
    have hq2 := Below.next HT1.out.below hb2
    go_wp2
    go_ret
    exact ⟨rfl, hq2⟩
end Go.Proofs.YtpkleioabinkkaaGreatDoor
