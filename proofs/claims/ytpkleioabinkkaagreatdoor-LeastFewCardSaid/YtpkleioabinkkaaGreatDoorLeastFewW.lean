/-
  THE WALK of vennlaw2.LeastFew.
-/
import Derived.Test.YtpkleioabinkkaaGreatDoorVennLowMany
import Derived.Test.YtpkleioabinkkaaGreatDoorLow
import Derived.Test.YtpkleioabinkkaaGreatDoorFormHolds
import Derived.Deep.DeepCutAuto
import Derived.Deep.CutBlock
namespace Go.Proofs.YtpkleioabinkkaaGreatDoor
open Go.RowKit

theorem oneF_at (w0 : World) : Below w0.heap.size w0 ((((w0.alloc (.cells #[.int .i64 1] 3)).alloc (.cells #[.int .i64 3, .slice (some ⟨w0.heap.size, 0, none⟩) 1 1, .slice none 0 0, .int .i64 3] 46)).alloc (.cells #[.int .i64 0] 3)).alloc (.cells #[.slice (some ⟨w0.heap.size + 1, 0, none⟩) 1 1, .slice (some ⟨w0.heap.size + 1 + 1, 0, none⟩) 1 1] 25)) ∧ Blk ((((w0.alloc (.cells #[.int .i64 1] 3)).alloc (.cells #[.int .i64 3, .slice (some ⟨w0.heap.size, 0, none⟩) 1 1, .slice none 0 0, .int .i64 3] 46)).alloc (.cells #[.int .i64 0] 3)).alloc (.cells #[.slice (some ⟨w0.heap.size + 1, 0, none⟩) 1 1, .slice (some ⟨w0.heap.size + 1 + 1, 0, none⟩) 1 1] 25)) (w0.heap.size + 1 + 1 + 1) 25 #[.slice (some ⟨w0.heap.size + 1, 0, none⟩) 1 1, .slice (some ⟨w0.heap.size + 1 + 1, 0, none⟩) 1 1] ∧ IsAtoms ((((w0.alloc (.cells #[.int .i64 1] 3)).alloc (.cells #[.int .i64 3, .slice (some ⟨w0.heap.size, 0, none⟩) 1 1, .slice none 0 0, .int .i64 3] 46)).alloc (.cells #[.int .i64 0] 3)).alloc (.cells #[.slice (some ⟨w0.heap.size + 1, 0, none⟩) 1 1, .slice (some ⟨w0.heap.size + 1 + 1, 0, none⟩) 1 1] 25)) (.slice (some ⟨w0.heap.size + 1, 0, none⟩) 1 1) [⟨3, [1], [], 3⟩] ∧ IsInts ((((w0.alloc (.cells #[.int .i64 1] 3)).alloc (.cells #[.int .i64 3, .slice (some ⟨w0.heap.size, 0, none⟩) 1 1, .slice none 0 0, .int .i64 3] 46)).alloc (.cells #[.int .i64 0] 3)).alloc (.cells #[.slice (some ⟨w0.heap.size + 1, 0, none⟩) 1 1, .slice (some ⟨w0.heap.size + 1 + 1, 0, none⟩) 1 1] 25)) (.slice (some ⟨w0.heap.size + 1 + 1, 0, none⟩) 1 1) [0] := by
  have B1 : Blk ((((w0.alloc (.cells #[.int .i64 1] 3)).alloc (.cells #[.int .i64 3, .slice (some ⟨w0.heap.size, 0, none⟩) 1 1, .slice none 0 0, .int .i64 3] 46)).alloc (.cells #[.int .i64 0] 3)).alloc (.cells #[.slice (some ⟨w0.heap.size + 1, 0, none⟩) 1 1, .slice (some ⟨w0.heap.size + 1 + 1, 0, none⟩) 1 1] 25)) w0.heap.size 3 #[.int .i64 1] := (((Blk.new w0 _ _).alloc _).alloc _).alloc _
  have B2 : Blk ((((w0.alloc (.cells #[.int .i64 1] 3)).alloc (.cells #[.int .i64 3, .slice (some ⟨w0.heap.size, 0, none⟩) 1 1, .slice none 0 0, .int .i64 3] 46)).alloc (.cells #[.int .i64 0] 3)).alloc (.cells #[.slice (some ⟨w0.heap.size + 1, 0, none⟩) 1 1, .slice (some ⟨w0.heap.size + 1 + 1, 0, none⟩) 1 1] 25)) (w0.heap.size + 1) 46 #[.int .i64 3, .slice (some ⟨w0.heap.size, 0, none⟩) 1 1, .slice none 0 0, .int .i64 3] := ((Blk.newAt (by simp) _ _).alloc _).alloc _
  have B3 : Blk ((((w0.alloc (.cells #[.int .i64 1] 3)).alloc (.cells #[.int .i64 3, .slice (some ⟨w0.heap.size, 0, none⟩) 1 1, .slice none 0 0, .int .i64 3] 46)).alloc (.cells #[.int .i64 0] 3)).alloc (.cells #[.slice (some ⟨w0.heap.size + 1, 0, none⟩) 1 1, .slice (some ⟨w0.heap.size + 1 + 1, 0, none⟩) 1 1] 25)) (w0.heap.size + 1 + 1) 3 #[.int .i64 0] := (Blk.newAt (by simp) _ _).alloc _
  exact ⟨by have w := w0; (repeat' (first | (with_reducible exact Below.refl _ _) | (with_reducible assumption) | (with_reducible refine Below.next ?_ (by with_reducible assumption)) | (with_reducible refine Below.drew ?_) | (with_reducible refine Below.laid ?_ _) | (with_reducible refine Below.setCell ?_ ?_ _) | (with_reducible refine size_of ?_) | (with_reducible refine Nat.le_succ_of_le ?_) | go_size)), Blk.newAt (by simp) _ _, IsAtoms.one B2 (IsInts.of_blk1 B1) (IsIntsNil _), IsInts.of_blk1 B3⟩
theorem error_fiveF (w : World) (hg : EtOk w) : Calls Tryz.prog 13 #[.iface 86 (.int .i64 5), .int .i64 5] w (Keeps (.bool true) w) := by
  have h := vennsame_Error 5 5 w hg
  rw [errV_ne (show (5 : Int) ≠ 0 by decide)] at h
  exact h
/-- The law's two boxes lie. -/
structure LfAt (w wx : World) (sa sc th a b d : Value) : Prop where
  below : Below w.heap.size w wx
  form : Blk wx w.heap.size 25 #[sa, sc]
  world : Blk wx (w.heap.size + 1) 28 #[th, a, b, d]
theorem LfAt.keep {w wx wy : World} {sa sc th a b d : Value} (h : LfAt w wx sa sc th a b d) (hb : Below wx.heap.size wx wy) : LfAt w wy sa sc th a b d := ⟨Below.next h.below hb, h.form.keep hb, h.world.keep hb⟩
set_option maxHeartbeats 8000000 in
set_option maxRecDepth 100000 in
theorem leastFew_walk (sa sc : Value) (l : List Venn.Atom) (c : List Int) (th a b d : Int) (w : World) (ha : IsAtoms w sa l) (hc : IsInts w sc c) (hk : KindsOk w) (het : EtOk w) :
    Calls Tryz.prog 8 #[.agg #[sa, sc], .agg #[.int .i64 th, .int .i64 a, .int .i64 b, .int .i64 d]] w (Keeps (.bool true) w) := by
  have HA := Lib.hid ha
  have HC := Lib.hid hc
  have HK := Lib.hid hk
  have HET := Lib.hid het
  obtain ⟨A, cA, rfl, _⟩ := ha
  obtain ⟨C, cC, rfl, _⟩ := hc
  have HMO := Lib.hid (fun W (hW : Below w.heap.size w W) (u : Int) => model_Of _ _ l c u W (HA.out.keep hW) (HC.out.keep hW) (HK.out.keep hW))
  have HOF := Lib.hid (fun W (hW : Below w.heap.size w W) => least_Of _ _ l c W (HA.out.keep hW) (HC.out.keep hW) (HK.out.keep hW) (HET.out.keep hW))
  have HLI := Lib.hid (fun W (hW : Below w.heap.size w W) => least_List _ _ l c W (HA.out.keep hW) (HC.out.keep hW) (HK.out.keep hW) (HET.out.keep hW))
  have HFI := Lib.hid (fun W (hW : Below w.heap.size w W) => least_Firm _ _ l c W (HA.out.keep hW) (HC.out.keep hW) (HK.out.keep hW) (HET.out.keep hW))
  have HFH := Lib.hid (fun W (hW : Below w.heap.size w W) => form_Holds _ _ l c th a b d W (HA.out.keep hW) (HC.out.keep hW) (HK.out.keep hW))
  have HER := Lib.hid (fun W (hW : Below w.heap.size w W) => error_fiveF W (HET.out.keep hW))
  have HM1 := Lib.hid (fun sa sc W (hW : Below w.heap.size w W) (ha : IsAtoms W sa (Venn.manyF 1 3).atoms) (hc : IsInts W sc (Venn.manyF 1 3).code) => least_Of sa sc (Venn.manyF 1 3).atoms (Venn.manyF 1 3).code W ha hc (HK.out.keep hW) (HET.out.keep hW))
  rw [show (⟨(Venn.manyF 1 3).atoms, (Venn.manyF 1 3).code⟩ : Venn.Form) = Venn.manyF 1 3 from rfl, ((Venn.least_many (name := 1) (n := 3) (by omega) (by omega)).2 (by omega)).1, ((Venn.least_many (name := 1) (n := 3) (by omega) (by omega)).2 (by omega)).2, if_neg (by omega), errV_zero rfl] at HM1
  -- the plain facts
  have HLO := Lib.hid (Venn.low_spec (f := ⟨l, c⟩))
  have HP1 := Lib.hid (fun u => Venn.model_zero (f := ⟨l, c⟩) (u := u))
  have HP2 := Lib.hid (fun (n : Nat) (h0 : Venn.cubesErr ⟨l, c⟩ = 0) (h : ∀ i, i < n → Venn.modelErr ⟨l, c⟩ ((i : Nat) : Int) = 5) (hh : Venn.formHoldsChk ⟨l, c⟩ ⟨th, a, b, d⟩ = 0) (hv : Venn.formHoldsV ⟨l, c⟩ ⟨th, a, b, d⟩ = true) => show ¬ th < (n : Int) by
    obtain ⟨h1, h2, h3⟩ := Venn.holds_parts hh
    rw [h3] at hv
    have := Venn.low_world h0 h h2 hv
    simp only at this
    omega)
  have HP6 := Lib.hid (fun (h0 : Venn.firmE ⟨l, c⟩ = 0) (h1 : Venn.firmV ⟨l, c⟩ = true) (hh : Venn.formHoldsChk ⟨l, c⟩ ⟨th, a, b, d⟩ = 0) => show Venn.formHoldsV ⟨l, c⟩ ⟨th, a, b, d⟩ = true by
    obtain ⟨h2, h3, h4⟩ := Venn.holds_parts hh
    rw [h4]
    exact Venn.firm_world h1 h3 h2)
  generalize Venn.formHoldsV ⟨l, c⟩ ⟨th, a, b, d⟩ = HV at HFH HP2 HP6
  generalize Venn.formHoldsChk ⟨l, c⟩ ⟨th, a, b, d⟩ = HE at HFH HP2 HP6
  generalize Venn.firmE ⟨l, c⟩ = FE at HFI HP6
  generalize Venn.firmV ⟨l, c⟩ = FV at HFI HP6
  generalize Venn.lowE ⟨l, c⟩ = LE at HOF HLO
  generalize Venn.lowV ⟨l, c⟩ = LV at HOF HLO
  generalize Venn.lowL ⟨l, c⟩ = LL at HLI HLO
  generalize Venn.cubesErr ⟨l, c⟩ = CE at HLI HLO HP2
  have HFC := Lib.hid (show FE ≠ 0 ∨ (FE = 0 ∧ FV = false) ∨ (FE = 0 ∧ FV = true) by
    by_cases h : FE = 0
    · cases FV
      · exact .inr (.inl ⟨h, rfl⟩)
      · exact .inr (.inr ⟨h, rfl⟩)
    · exact .inl h)
  have HT0 := Lib.hid (show LfAt w ((w.alloc (.cells #[.slice A l.length cA, .slice C c.length cC] 25)).alloc (.cells #[.int .i64 th, .int .i64 a, .int .i64 b, .int .i64 d] 28)) (.slice A l.length cA) (.slice C c.length cC) (.int .i64 th) (.int .i64 a) (.int .i64 b) (.int .i64 d) from
    ⟨by (repeat' (first | (with_reducible exact Below.refl _ _) | (with_reducible assumption) | (with_reducible refine Below.next ?_ (by with_reducible assumption)) | (with_reducible refine Below.drew ?_) | (with_reducible refine Below.laid ?_ _) | (with_reducible refine Below.setCell ?_ ?_ _) | (with_reducible refine size_of ?_) | (with_reducible refine Nat.le_succ_of_le ?_) | go_size)), (Blk.new w _ _).alloc _, Blk.newAt (by simp) _ _⟩)
  clear hk het
  go_enter Tryz.func8, Tryz.ntmps8
  go_upto_region 1 with (fail)
  revert HT0
  generalize (w.alloc (.cells #[.slice A l.length cA, .slice C c.length cC] 25)).alloc (.cells #[.int .i64 th, .int .i64 a, .int .i64 b, .int .i64 d] 28) = w0
  intro HT0
  obtain ⟨o1, o2, o3, o4⟩ := oneF_at w0
  go_upto_region 2 with (fail)
  revert o1 o2 o3 o4
  generalize ((((w0.alloc (.cells #[.int .i64 1] 3)).alloc (.cells #[.int .i64 3, .slice (some ⟨w0.heap.size, 0, none⟩) 1 1, .slice none 0 0, .int .i64 3] 46)).alloc (.cells #[.int .i64 0] 3)).alloc (.cells #[.slice (some ⟨w0.heap.size + 1, 0, none⟩) 1 1, .slice (some ⟨w0.heap.size + 1 + 1, 0, none⟩) 1 1] 25)) = w1
  intro o1 o2 o3 o4
  have HT1 := Lib.hid (HT0.out.keep o1)
  have O2 := Lib.hid o2
  have O3 := Lib.hid o3
  have O4 := Lib.hid o4
  clear o1 o2 o3 o4 HT0
  have b0 := O2.out.cell 0
  have b1' := O2.out.cell 1
  simp at b0 b1'
  go_wp2_with fail
  refine (HM1.out _ _ w1 HT1.out.below O3.out O4.out).mono ?_
  rintro e w2 ⟨rfl, hb2⟩
  have HT2 := Lib.hid (HT1.out.keep hb2)
  clear b0 b1' hb2 O2 O3 O4 HM1 HT1
  have b0 := HT2.out.form.cell 0
  have b1' := HT2.out.form.cell 1
  obtain ⟨c0, c1, c2, c3⟩ := HT2.out.world.cells4
  simp at b0 b1'
  go_wp2_with fail
  refine (HFH.out _ HT2.out.below).mono ?_
  rintro e w3 ⟨rfl, hb3⟩
  have HT3 := Lib.hid (HT2.out.keep hb3)
  clear b0 b1' c0 c1 c2 c3 hb3 HT2
  have b0 := HT3.out.form.cell 0
  have b1' := HT3.out.form.cell 1
  simp at b0 b1'
  go_wp2_with fail
  refine (HOF.out _ HT3.out.below).mono ?_
  rintro e w4 ⟨rfl, hb4⟩
  have HT4 := Lib.hid (HT3.out.keep hb4)
  clear b0 b1' hb4 HT3
  have b0 := HT4.out.form.cell 0
  have b1' := HT4.out.form.cell 1
  simp at b0 b1'
  go_wp2_with fail
  refine (HLI.out _ HT4.out.below).mono ?_
  rintro e w5 ⟨LS, rfl, hb5, hls⟩
  have HT5 := Lib.hid (HT4.out.keep hb5)
  have HLS := Lib.hid hls
  obtain ⟨LA, kL, rfl, _⟩ := hls
  clear b0 b1' hb5 HT4
  by_cases hl : LE = 0
  · obtain ⟨hce, hlen, n, hn7, hlv, hln, hmn, hall⟩ := HLO.out hl
    rw [errV_zero hl, errV_zero hce, hlv, hlen]
    have HZ := Lib.hid (HMO.out)
    have HRD := Lib.hid (show Rd w5 LA (LL.map Value.bool) by
      obtain ⟨_, _, e, hr, _⟩ := HLS.out
      injection e with e1 _ _
      subst e1
      exact hr)
    have HGE := Lib.hid (fun (k : Nat) (x : Bool) (h : LL[k]? = some x) => show ∃ ad, LA = some ad ∧ w5.cell? (ad.add k) = some (.bool x) from HRD.out k (.bool x) (by rw [List.getElem?_map, h]; rfl))
    have HALL := Lib.hid hall
    have HMN := Lib.hid hmn
    have HNW := Lib.hid (HP2.out n hce fun i hi => (hall i hi).2)
    have HTN := Lib.hid (HP1.out _ hmn).2.2.1
    obtain ⟨adn, rfl, hcn⟩ := HGE.out n true hln
    clear hl hce hlv hlen hln hmn hall HLO HP1 HP2 HLS HRD HMO
    have hn6 : ¬ 6 < (n : Int) := by omega
    have hn0 : ¬ (n : Int) < 0 := by omega
    have hn7' : (n : Int) < 7 := by omega
    have hnw : IntKind.i64.wrap (n : Int) = (n : Int) := IntWalk.i64_in _ (by omega)
    go_wp2
    go_loopw [14] (fun i wr => ∃ k : Nat, k ≤ n ∧ i = .int .i64 k ∧ Below w5.heap.size w5 wr) (fun i _ => n - (intOf i).toNat)
    case atStart => exact ⟨0, Nat.zero_le _, rfl, Below.refl _ _⟩
    case round =>
      obtain ⟨k, hk, rfl, hbw⟩ := hrel
      obtain ⟨wo, rfl⟩ : ∃ wo : World, wo = wr := ⟨_, rfl⟩
      have HTo := Lib.hid (HT5.out.keep hbw)
      have HBW := Lib.hid hbw
      clear hcn hbw
      have b0 := HTo.out.form.cell 0
      have b1' := HTo.out.form.cell 1
      simp at b0 b1'
      have hkw : IntKind.i64.wrap (k : Int) = (k : Int) := IntWalk.i64_in _ (by omega)
      by_cases hlt : k < n
      · have hk1 : (k : Int) < (n : Int) := by omega
        have hk7 : (k : Int) < 7 := by omega
        have hkw1 : IntKind.i64.wrap ((k : Int) + 1) = (k : Int) + 1 := IntWalk.i64_in _ (by omega)
        have HM := Lib.hid (HZ.out wo HTo.out.below (k : Int))
        rw [(HALL.out k hlt).2] at HM
        generalize Venn.modelV ⟨l, c⟩ (k : Int) = MV at HM
        obtain ⟨mt, ma, mb, mc⟩ := MV
        obtain ⟨ad, hae, hcd⟩ := HGE.out k false (HALL.out k hlt).1
        injection hae with hae
        subst hae
        have HCD := Lib.hid hcd
        clear hcd
        go_wp2_with fail
        refine (HM.out).mono ?_
        rintro e w6 ⟨he, hb6⟩
        simp only [worldM] at he
        rw [errV_ne (show (5 : Int) ≠ 0 by decide)] at he
        subst he
        have hb7 : Below w6.heap.size w6 (w6.alloc (.cells #[.int .i64 mt, .int .i64 ma, .int .i64 mb, .int .i64 mc] 28)) := by (repeat' (first | (with_reducible exact Below.refl _ _) | (with_reducible assumption) | (with_reducible refine Below.next ?_ (by with_reducible assumption)) | (with_reducible refine Below.drew ?_) | (with_reducible refine Below.laid ?_ _) | (with_reducible refine Below.setCell ?_ ?_ _) | (with_reducible refine size_of ?_) | (with_reducible refine Nat.le_succ_of_le ?_) | go_size))
        have hb67 := Below.next hb6 hb7
        clear b0 b1' hb6 hb7
        go_wp2_with fail
        refine (HER.out _ (HTo.out.keep hb67).below).mono ?_
        rintro e w8 ⟨rfl, hb8⟩
        have hb5 := Below.next HBW.out (Below.next hb67 hb8)
        have hcd := cell_keep hb5 HCD.out
        clear hb8 hb67
        go_wp2
        go_roundw
        case rel => exact ⟨k + 1, by omega, by go_num, hb5⟩
        case measure => simp [intOf]; omega
      · obtain rfl : k = n := by omega
        have hk1 : ¬ (k : Int) < (k : Int) := by omega
        have HM := Lib.hid (HZ.out wo HTo.out.below (k : Int))
        rw [HMN.out] at HM
        generalize Venn.modelV ⟨l, c⟩ (k : Int) = MV at HM HTN
        obtain ⟨mt, ma, mb, mc⟩ := MV
        obtain rfl : mt = (k : Int) := HTN.out
        go_wp2_with fail
        refine (HM.out).mono ?_
        rintro e w6 ⟨he, hb6⟩
        simp only [worldM] at he
        rw [errV_zero rfl] at he
        subst he
        have hb7 : Below w6.heap.size w6 (w6.alloc (.cells #[.int .i64 (k : Int), .int .i64 ma, .int .i64 mb, .int .i64 mc] 28)) := by (repeat' (first | (with_reducible exact Below.refl _ _) | (with_reducible assumption) | (with_reducible refine Below.next ?_ (by with_reducible assumption)) | (with_reducible refine Below.drew ?_) | (with_reducible refine Below.laid ?_ _) | (with_reducible refine Below.setCell ?_ ?_ _) | (with_reducible refine size_of ?_) | (with_reducible refine Nat.le_succ_of_le ?_) | go_size))
        have HTc := Lib.hid (HTo.out.keep (Below.next hb6 hb7))
        clear b0 b1' hb6 hb7
        obtain ⟨y0, y1, y2, y3⟩ := (Blk.new w6 28 #[.int .i64 (k : Int), .int .i64 ma, .int .i64 mb, .int .i64 mc]).cells4
        have b0 := HTc.out.form.cell 0
        have b1' := HTc.out.form.cell 1
        obtain ⟨c0, c1, c2, c3⟩ := HTc.out.world.cells4
        simp at b0 b1'
        by_cases he : HE = 0
        · have HNW := Lib.hid (HNW.out he)
          rw [errV_zero he]
          cases HV
          · -- it does not hold
            have HFW := Lib.hid (HFI.out _ HTc.out.below)
            rcases HFC.out with hf | ⟨hf, hv⟩ | ⟨hf, hv⟩
            · rw [errV_ne hf] at HFW
              clear hf
              go_wp2_with fail
              refine (HFW.out).mono ?_
              rintro e wf ⟨rfl, hbf⟩
              have hqf := Below.next HTc.out.below hbf
              go_wp2
              go_ret
              exact ⟨rfl, hqf⟩
            · rw [hf, hv, errV_zero rfl] at HFW
              go_wp2_with fail
              refine (HFW.out).mono ?_
              rintro e wf ⟨rfl, hbf⟩
              have hqf := Below.next HTc.out.below hbf
              go_wp2
              go_ret
              exact ⟨rfl, hqf⟩
            · rw [hf, hv, errV_zero rfl] at HFW
              exact absurd (HP6.out hf hv he) (by decide)
          · have hnw2 : ¬ th < (k : Int) := Int.not_lt.2 (HNW.out rfl)
            have HFW := Lib.hid (HFI.out _ HTc.out.below)
            rcases HFC.out with hf | ⟨hf, hv⟩ | ⟨hf, hv⟩
            · rw [errV_ne hf] at HFW
              clear hf
              go_wp2_with fail
              refine (HFW.out).mono ?_
              rintro e wf ⟨rfl, hbf⟩
              have hqf := Below.next HTc.out.below hbf
              go_wp2
              go_ret
              exact ⟨rfl, hqf⟩
            · rw [hf, hv, errV_zero rfl] at HFW
              go_wp2_with fail
              refine (HFW.out).mono ?_
              rintro e wf ⟨rfl, hbf⟩
              have hqf := Below.next HTc.out.below hbf
              go_wp2
              go_ret
              exact ⟨rfl, hqf⟩
            · rw [hf, hv, errV_zero rfl] at HFW
              go_wp2_with fail
              refine (HFW.out).mono ?_
              rintro e wf ⟨rfl, hbf⟩
              have hqf := Below.next HTc.out.below hbf
              go_wp2
              go_ret
              exact ⟨rfl, hqf⟩
        · rw [errV_ne he]
          have HHE := Lib.hid he
          clear he
          have HFW := Lib.hid (HFI.out _ HTc.out.below)
          rcases HFC.out with hf | ⟨hf, hv⟩ | ⟨hf, hv⟩
          · rw [errV_ne hf] at HFW
            clear hf
            go_wp2_with fail
            refine (HFW.out).mono ?_
            rintro e wf ⟨rfl, hbf⟩
            have hqf := Below.next HTc.out.below hbf
            go_wp2
            go_ret
            exact ⟨rfl, hqf⟩
          · rw [hf, hv, errV_zero rfl] at HFW
            go_wp2_with fail
            refine (HFW.out).mono ?_
            rintro e wf ⟨rfl, hbf⟩
            have hqf := Below.next HTc.out.below hbf
            go_wp2
            go_ret
            exact ⟨rfl, hqf⟩
          · rw [hf, hv, errV_zero rfl] at HFW
            go_wp2_with fail
            refine (HFW.out).mono ?_
            rintro e wf ⟨rfl, hbf⟩
            have hqf := Below.next HTc.out.below hbf
            go_wp2
            go_ret
            exact ⟨rfl, hqf⟩
  · rw [errV_ne hl]
    clear hl HLO HP1 HP2 HLS
    have HTc := HT5
    have b0 := HTc.out.form.cell 0
    have b1' := HTc.out.form.cell 1
    simp at b0 b1'
    by_cases he : HE = 0
    · rw [errV_zero he]
      cases HV
      · -- it does not hold
        have HFW := Lib.hid (HFI.out _ HTc.out.below)
        rcases HFC.out with hf | ⟨hf, hv⟩ | ⟨hf, hv⟩
        · rw [errV_ne hf] at HFW
          clear hf
          go_wp2_with fail
          refine (HFW.out).mono ?_
          rintro e wf ⟨rfl, hbf⟩
          have hqf := Below.next HTc.out.below hbf
          go_wp2
          go_ret
          exact ⟨rfl, hqf⟩
        · rw [hf, hv, errV_zero rfl] at HFW
          go_wp2_with fail
          refine (HFW.out).mono ?_
          rintro e wf ⟨rfl, hbf⟩
          have hqf := Below.next HTc.out.below hbf
          go_wp2
          go_ret
          exact ⟨rfl, hqf⟩
        · rw [hf, hv, errV_zero rfl] at HFW
          exact absurd (HP6.out hf hv he) (by decide)
      · -- it holds
        have HFW := Lib.hid (HFI.out _ HTc.out.below)
        rcases HFC.out with hf | ⟨hf, hv⟩ | ⟨hf, hv⟩
        · rw [errV_ne hf] at HFW
          clear hf
          go_wp2_with fail
          refine (HFW.out).mono ?_
          rintro e wf ⟨rfl, hbf⟩
          have hqf := Below.next HTc.out.below hbf
          go_wp2
          go_ret
          exact ⟨rfl, hqf⟩
        · rw [hf, hv, errV_zero rfl] at HFW
          go_wp2_with fail
          refine (HFW.out).mono ?_
          rintro e wf ⟨rfl, hbf⟩
          have hqf := Below.next HTc.out.below hbf
          go_wp2
          go_ret
          exact ⟨rfl, hqf⟩
        · rw [hf, hv, errV_zero rfl] at HFW
          go_wp2_with fail
          refine (HFW.out).mono ?_
          rintro e wf ⟨rfl, hbf⟩
          have hqf := Below.next HTc.out.below hbf
          go_wp2
          go_ret
          exact ⟨rfl, hqf⟩
    · rw [errV_ne he]
      have HHE := Lib.hid he
      clear he
      have HFW := Lib.hid (HFI.out _ HTc.out.below)
      rcases HFC.out with hf | ⟨hf, hv⟩ | ⟨hf, hv⟩
      · rw [errV_ne hf] at HFW
        clear hf
        go_wp2_with fail
        refine (HFW.out).mono ?_
        rintro e wf ⟨rfl, hbf⟩
        have hqf := Below.next HTc.out.below hbf
        go_wp2
        go_ret
        exact ⟨rfl, hqf⟩
      · rw [hf, hv, errV_zero rfl] at HFW
        go_wp2_with fail
        refine (HFW.out).mono ?_
        rintro e wf ⟨rfl, hbf⟩
        have hqf := Below.next HTc.out.below hbf
        go_wp2
        go_ret
        exact ⟨rfl, hqf⟩
      · rw [hf, hv, errV_zero rfl] at HFW
        go_wp2_with fail
        refine (HFW.out).mono ?_
        rintro e wf ⟨rfl, hbf⟩
        have hqf := Below.next HTc.out.below hbf
        go_wp2
        go_ret
        exact ⟨rfl, hqf⟩
end Go.Proofs.YtpkleioabinkkaaGreatDoor
