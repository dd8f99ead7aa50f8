/-
  THE WALK of venntop.TopSaid.
-/
import Derived.Test.YtjnjgcibhjdmdaaGreatDoorVennTopS
import Derived.Test.YtjnjgcibhjdmdaaGreatDoorVennLog
import Derived.Test.YtjnjgcibhjdmdaaGreatDoorTopOne
import Derived.Test.YtjnjgcibhjdmdaaGreatDoorBoth
import Derived.Test.YtjnjgcibhjdmdaaGreatDoorModelG
import Derived.Test.YtjnjgcibhjdmdaaGreatDoorFormHolds
import Derived.Test.YtjnjgcibhjdmdaaGreatDoorLawF
import Derived.Deep.DeepCutAuto
import Derived.Deep.CutBlock
namespace Go.Proofs.YtjnjgcibhjdmdaaGreatDoor
open Go.RowKit

theorem Venn_open_none {u : Int} (hu : Venn.things u = true) : Venn.openV (saidF []) u = true := Venn.open_nil hu
/-- The box holds the form. -/
def FSt (W : World) (g : Nat) (F : Venn.Form) : Prop :=
  ∃ A1 c1 C1 d1, Blk W g 38 #[.slice A1 F.atoms.length c1, .slice C1 F.code.length d1] ∧ IsAtoms W (.slice A1 F.atoms.length c1) F.atoms ∧ IsInts W (.slice C1 F.code.length d1) F.code
set_option maxHeartbeats 8000000 in
set_option maxRecDepth 100000 in
theorem topSaid_walk (v : Value) (al : List Venn.Atom) (u keep : Int) (w : World) (ha : IsAtoms w v al) (hk : KindsOk w) (het : EtOk w) (htab : TabOk w) :
    Calls Tryz.prog 3 #[.int .i64 u, v, .int .i64 keep] w (Keeps (.bool true) w) := by
  have HA := Lib.hid ha
  have HK := Lib.hid hk
  have HET := Lib.hid het
  have HTB := Lib.hid htab
  obtain ⟨A, cA, rfl, hra, hlc, hcm⟩ := ha
  have HRA := Lib.hid hra
  have hlen : (al.length : Int) ≤ 9223372036854775807 := by unfold maxLen at hcm; omega
  have HON := Lib.hid (venntop_one w hk)
  clear hk het htab hra hlc hcm
  go_enter Tryz.func3, Tryz.ntmps3
  go_wp2_with fail
  refine (HON.out).mono ?_
  rintro e w1 ⟨rfl, hb1⟩
  cases hu : Venn.things u with
  | false =>
    have HN := Lib.hid (logG_New_bad u w1 hu)
    clear hu
    go_wp2_with fail
    refine (HN.out).mono ?_
    rintro e w' ⟨rfl, rfl⟩
    go_wp2
    go_ret
    exact ⟨rfl, hb1⟩
  | true =>
    have HU := Lib.hid hu
    have HN := Lib.hid (logG_New u w1 hu)
    have HO0 := Lib.hid (Venn_open_none hu)
    clear hu
    go_wp2_with fail
    refine (HN.out).mono ?_
    rintro e w2 ⟨rfl, hb2, hlog⟩
    have hq2 := Below.next hb1 hb2
    have hj : w.heap.size ≤ w1.heap.size := hb1.size
    clear HN HON
    revert hb2 hlog hj
    generalize w1.heap.size = j
    intro hb2 hlog hj
    have HT0 := Lib.hid (show TopSt w2 j u 0 from ⟨[], 0, rfl, by omega, (fun r hr => by cases hr), HO0.out, Nat.zero_le _, hlog⟩)
    have HW := Lib.hid (fun W (hW : But (fun b => b = j) w2 W) => show Below w.heap.size w W from hq2.trans (hW.below hq2.size (fun b h => by omega)))
    clear hb2 hlog hq2 hb1 HO0 hj
    go_wp2
    go_loopw [10, 11] (fun m i wr => ∃ (k many : Nat), k ≤ 8 ∧ k ≤ al.length ∧ many ≤ k ∧ m = .int .i64 many ∧ i = .int .i64 k ∧ But (fun b => b = j) w2 wr ∧ TopSt wr j u many) (fun _ i _ => 8 - (intOf i).toNat)
    case atStart => exact ⟨0, 0, by omega, Nat.zero_le _, Nat.le_refl _, rfl, rfl, But.refl _ _, HT0.out⟩
    case round =>
      clear HT0
      obtain ⟨k, many, hk8, hkl, hmk, rfl, rfl, hbr, hst⟩ := hrel
      obtain ⟨wo, rfl⟩ : ∃ wo : World, wo = wr := ⟨_, rfl⟩
      have HBR := Lib.hid hbr
      have HST := Lib.hid hst
      have hkw : IntKind.i64.wrap ((k : Int) + 1) = (k : Int) + 1 := IntWalk.i64_in _ (by omega)
      have hmw : IntKind.i64.wrap ((many : Int) + 1) = (many : Int) + 1 := IntWalk.i64_in _ (by omega)
      clear hbr hst
      by_cases hin : k < al.length ∧ k < 8
      · obtain ⟨hl, h8⟩ := hin
        have HH8 := Lib.hid (And.intro hl h8)
        have hl' : (k : Int) < (al.length : Int) := by omega
        have h8' : (k : Int) < 8 := by omega
        have hk0 : (0 : Int) ≤ (k : Int) := by omega
        obtain ⟨⟨aw, aS, aT, an⟩, hx⟩ : ∃ y, al[k]? = some y := ⟨al[k], List.getElem?_eq_getElem hl⟩
        obtain ⟨ad, sv, tv, rfl, g0, g1, g2, g3, hs, ht⟩ := HRA.out k _ hx
        have hb := HW.out _ HBR.out
        have g0 := cell_keep hb g0
        have g1 := cell_keep hb g1
        have g2 := cell_keep hb g2
        have g3 := cell_keep hb g3
        have HSA := Lib.hid (fun b => top_Say j u many aw an sv tv aS aT b wo HST.out HU.out (hs.keep hb) (ht.keep hb) (HK.out.keep hb) (HTB.out.keep hb))
        clear hx hs ht hb
        go_wp2_with fail
        refine (HSA.out _).mono ?_
        rintro e w4 ⟨hb4, ⟨E, rfl, hT⟩ | ⟨rfl, hT⟩⟩
        · have HB4 := Lib.hid (HBR.out.trans hb4)
          have HT4 := Lib.hid hT
          clear hb4 hT HSA g0 g1 g2 g3
          by_cases h2 : k = 2
          · have q2 : ((k : Int) == 2) = true := beq_iff_eq.2 (by omega)
            have HSY := Lib.hid (top_Sync j u many w4 HT4.out)
            go_wp2_with fail
            refine (HSY.out).mono ?_
            rintro e w5 ⟨rfl, hb5, hT5⟩
            have hb5 := HB4.out.trans hb5
            have HT5 := Lib.hid hT5
            have HH2 := Lib.hid h2
            clear hT5 HSY h2
            go_wp2
            go_roundw
            case rel => exact ⟨k + 1, many, by have := HH8.out; omega, by have := HH8.out; omega, by omega, by go_num, by have := HH2.out; first | (subst this; rfl) | go_num, hb5, HT5.out⟩
            case measure => have := HH8.out; have := HH2.out; simp [intOf]; omega
          · have q2 : ((k : Int) == 2) = false := beq_eq_false_iff_ne.2 (by omega)
            clear h2
            go_wp2
            go_roundw
            case rel => exact ⟨k + 1, many, by have := HH8.out; omega, by have := HH8.out; omega, by omega, by go_num, by go_num, HB4.out, HT4.out⟩
            case measure => have := HH8.out; simp [intOf]; omega
        · have HB4 := Lib.hid (HBR.out.trans hb4)
          have HT4 := Lib.hid hT
          clear hb4 hT HSA g0 g1 g2 g3
          by_cases h2 : k = 2
          · have q2 : ((k : Int) == 2) = true := beq_iff_eq.2 (by omega)
            have HSY := Lib.hid (top_Sync j u (many + 1) w4 HT4.out)
            go_wp2_with fail
            refine (HSY.out).mono ?_
            rintro e w5 ⟨rfl, hb5, hT5⟩
            have hb5 := HB4.out.trans hb5
            have HT5 := Lib.hid hT5
            have HH2 := Lib.hid h2
            clear hT5 HSY h2
            go_wp2
            go_roundw
            case rel => exact ⟨k + 1, (many + 1), by have := HH8.out; omega, by have := HH8.out; omega, by omega, by go_num, by have := HH2.out; first | (subst this; rfl) | go_num, hb5, HT5.out⟩
            case measure => have := HH8.out; have := HH2.out; simp [intOf]; omega
          · have q2 : ((k : Int) == 2) = false := beq_eq_false_iff_ne.2 (by omega)
            clear h2
            go_wp2
            go_roundw
            case rel => exact ⟨k + 1, (many + 1), by have := HH8.out; omega, by have := HH8.out; omega, by omega, by go_num, by go_num, HB4.out, HT4.out⟩
            case measure => have := HH8.out; simp [intOf]; omega
      · have hex : ¬ k < al.length ∨ (k < al.length ∧ ¬ k < 8) := by
          by_cases h : k < al.length
          · exact .inr ⟨h, fun h8 => hin ⟨h, h8⟩⟩
          · exact .inl h
        have hlc : (0 : Int) ≤ (al.length : Int) := by omega
        clear hin
        have HCR := Lib.hid (top_Crash j u many keep wo HST.out)
        have hm6 : many ≤ 6 := by obtain ⟨l, safe, q1, q2, _⟩ := HST.out; exact q2
        rcases hex with hx | ⟨hx, hy⟩
        all_goals
          first
          | (have hx' : ¬ (k : Int) < (al.length : Int) := by omega)
          | skip
          try (have hy' : ¬ (k : Int) < 8 := by omega)
          try (have hx' : (k : Int) < (al.length : Int) := by omega)
          go_wp2_with fail
          refine (HCR.out).mono ?_
          rintro e w4 ⟨rfl, hb4, l, hK⟩
          have HB4 := Lib.hid (HBR.out.trans hb4)
          obtain ⟨k1, k2, k3, k4, bs, safe, hlog⟩ := hK
          have HL4 := Lib.hid hlog
          have HK3 := Lib.hid k3
          have HK4 := Lib.hid k4
          have hnl : (saidF l).length = l.length := by simp [saidF]
          have hok : ∀ f ∈ saidF l, Venn.formChk f = 0 := fun f hf => (said_small k3 f hf).2.2
          have HAL := Lib.hid (logG_All j u _ _ _ _ _ w4 hlog hok (by omega))
          have HOPN := Lib.hid (fun W (hW : Below w4.heap.size w4 W) => logG_Open j u _ _ _ _ _ W (hlog.keep hW) (HK.out.keep (Below.next (HW.out _ HB4.out) hW)) hok HU.out)
          rw [k4] at HOPN
          have HLN := Lib.hid (And.intro k1 hm6)
          clear hb4 hlog k3 k4 hok HCR k1 k2 HBR HST hkw hmw
          try clear hx'
          try clear hy'
          try clear hx
          try clear hy
          go_wp2_with fail
          refine (HAL.out).mono ?_
          rintro e w5 ⟨FA, fn, fc, rfl, hb5, hfs⟩
          obtain ⟨rfl⟩ : fn = l.length := by
            obtain ⟨_, _, e, _⟩ := hfs
            injection e with _ e _
            rw [e, hnl]
          have HFS := Lib.hid hfs
          have hmn : ¬ (many : Int) < (l.length : Int) := by have := HLN.out.1; omega
          have hmn2 : ¬ many < l.length := by have := HLN.out.1; omega
          clear hfs HAL
          go_wp2_with fail
          refine (HOPN.out _ hb5).mono ?_
          rintro e w6 ⟨rfl, hb6⟩
          have hb46 := Below.next hb5 hb6
          have HF6 := Lib.hid (HFS.out.keep hb6)
          have HQ6 := Lib.hid (Below.next (HW.out _ HB4.out) hb46)
          clear hmn hmn2 HOPN HFS hb5 hb6 hb46
          by_cases h0 : l = []
          · subst h0
            go_wp2
            go_ret
            exact ⟨rfl, HQ6.out⟩
          · have hl0 : ((l.length : Int) == 0) = false := beq_eq_false_iff_ne.2 (by have := List.length_pos_iff.2 h0; omega)
            have H0 := Lib.hid h0
            have hlp : (0 : Int) < (l.length : Int) := by have := List.length_pos_iff.2 h0; omega
            clear h0
            go_upto_region 22 with (fail)
            have BF := Blk.new w6 38 #[.slice none 0 0, .slice none 0 0]
            have hx6 : Below w6.heap.size w6 (w6.alloc (.cells #[.slice none 0 0, .slice none 0 0] 38)) := Below.laid (Below.refl _ _) _
            obtain ⟨g, hg⟩ : ∃ g, g = w6.heap.size := ⟨_, rfl⟩
            rw [← hg] at BF
            have HG := Lib.hid hg
            revert BF hx6
            try rw [← hg]
            generalize w6.alloc (.cells #[.slice none 0 0, .slice none 0 0] 38) = w7
            intro hx6 BF
            have HF0 := Lib.hid (show FSt w7 g (Venn.andL ((saidF l).take 0)) from ⟨none, 0, none, 0, BF, IsAtoms.nil _, IsIntsNil _⟩)
            have HW7 := Lib.hid (fun W (hW : But (fun b => b = g) w7 W) => show Below w6.heap.size w6 W from (by rw [HG.out] at hx6; exact hx6.trans (hW.below hx6.size (fun b h => by have := HG.out; omega))))
            have HASK := Lib.hid (fun f (hf : f ∈ saidF l) => show askVv (saidF l) f u = .tuple #[.int .i64 1, .nilIface] from by
              have h6 : l.length ≤ 6 := Nat.le_trans HLN.out.1 HLN.out.2
              obtain ⟨q1, q2⟩ := Venn.open_ask HK4.out (said_core HK3.out H0.out h6 HU.out) hf
              unfold askVv
              rw [q1, q2]
              rfl)
            clear hg BF hx6
            go_wp2
            go_loopw [14] (fun i wr => ∃ k : Nat, k ≤ l.length ∧ i = .int .i64 k ∧ But (fun b => b = g) w7 wr ∧ FSt wr g (Venn.andL ((saidF l).take k))) (fun i _ => l.length - (intOf i).toNat)
            case atStart => exact ⟨0, Nat.zero_le _, rfl, But.refl _ _, HF0.out⟩
            case round =>
              clear HF0 hlp hl0
              obtain ⟨k, hk, rfl, hbr, hfst⟩ := hrel
              obtain ⟨wo, rfl⟩ : ∃ wo : World, wo = wr := ⟨_, rfl⟩
              have HBR := Lib.hid hbr
              have HFST := Lib.hid hfst
              have hl6 : l.length ≤ 6 := Nat.le_trans HLN.out.1 HLN.out.2
              have hkw : IntKind.i64.wrap ((k : Int) + 1) = (k : Int) + 1 := IntWalk.i64_in _ (by omega)
              clear hbr hfst
              by_cases hlt : k < l.length
              · have hl' : (k : Int) < (l.length : Int) := by omega
                have hk0 : (0 : Int) ≤ (k : Int) := by omega
                have HLT := Lib.hid hlt
                have HWo := Lib.hid (HW7.out _ HBR.out)
                obtain ⟨f, hx⟩ : ∃ y, (saidF l)[k]? = some y := ⟨_, List.getElem?_eq_getElem (by simp [saidF]; omega)⟩
                have hfm := List.mem_of_getElem? hx
                have HFM := Lib.hid hfm
                have HX := Lib.hid hx
                obtain ⟨FA', fc', e, hrf, -, -⟩ := HF6.out
                injection e with e1 e2 e3
                subst e1 e3
                obtain ⟨ad, sa, sc, rfl, d0, d1, hfa, hfd⟩ := hrf k f hx
                obtain ⟨fl, fcd⟩ := f
                simp only at d0 d1 hfa hfd
                obtain ⟨SA, sAc, rfl⟩ := hfa.slice
                obtain ⟨SC, sCc, rfl⟩ := hfd.slice
                have d0 := cell_keep HWo.out d0
                have d1 := cell_keep HWo.out d1
                have HFA := Lib.hid (hfa.keep HWo.out)
                have HFD := Lib.hid (hfd.keep HWo.out)
                have HQo := Lib.hid (Below.next HQ6.out HWo.out)
                have HAK := Lib.hid (ask_Of _ _ _ (saidF l) fl fcd u wo (HF6.out.keep HWo.out) HFA.out HFD.out (HK.out.keep HQo.out))
                rw [HASK.out _ HFM.out] at HAK
                clear hfm hx hrf hfa hfd e2 hlt
                go_wp2_with fail
                refine (HAK.out).mono ?_
                rintro e w8 ⟨rfl, hb8⟩
                have d0 := cell_keep hb8 d0
                have d1 := cell_keep hb8 d1
                obtain ⟨A1, c1, C1, e1, hB, hA1, hC1⟩ := HFST.out
                have HB8 := Lib.hid (hB.keep hb8)
                have HA8 := Lib.hid (hA1.keep hb8)
                have HC8 := Lib.hid (hC1.keep hb8)
                have HBT := Lib.hid (HBR.out.trans (But.of_below hb8))
                have HFA8 := Lib.hid (HFA.out.keep hb8)
                have HFD8 := Lib.hid (HFD.out.keep hb8)
                have HQ8 := Lib.hid (Below.next HQo.out hb8)
                clear hB hA1 hC1 hb8 HAK
                by_cases hz : k = 0
                · have hz' : ((k : Int) == 0) = true := beq_iff_eq.2 (by omega)
                  have e0 : ad.add (k * 2) = ad := by rw [hz, Nat.zero_mul, add0]
                  rw [e0] at d0 d1
                  have hFN : Venn.andL ((saidF l).take (k + 1)) = ⟨fl, fcd⟩ := by
                    have hx := HX.out
                    subst hz
                    cases hs : saidF l with
                    | nil => rw [hs] at hx; cases hx
                    | cons y r =>
                      rw [hs] at hx
                      obtain rfl := Option.some.inj hx
                      rfl
                  have HFN := Lib.hid (show FSt ((w8.setCell ⟨g, 0, none⟩ (.slice SA fl.length sAc)).setCell ⟨g, 1, none⟩ (.slice SC fcd.length sCc)) g (Venn.andL ((saidF l).take (k + 1))) from by
                    rw [hFN]
                    have h0 := HB8.out.set_ 0 (.slice SA fl.length sAc)
                    have h1 := h0.set_ 1 (.slice SC fcd.length sCc)
                    refine ⟨SA, sAc, SC, sCc, by simpa using h1, ?_, ?_⟩
                    · exact (HFA8.out.fset HB8.out 0 _).fset (A1 := SA) (n1 := fl.length) (c1 := sAc) (by simpa using h0) 1 _
                    · exact (HFD8.out.fset HB8.out 0 _).fset (A1 := SA) (n1 := fl.length) (c1 := sAc) (by simpa using h0) 1 _)
                  have HBN := Lib.hid (show But (fun b => b = g) w7 ((w8.setCell ⟨g, 0, none⟩ (.slice SA fl.length sAc)).setCell ⟨g, 1, none⟩ (.slice SC fcd.length sCc)) from (HBT.out.set_ (p := ⟨g, 0, none⟩) rfl _).set_ (p := ⟨g, 1, none⟩) rfl _)
                  have z0 := HB8.out.frozen 0
                  have z1 := HB8.out.frozen 1
                  have p0 := HB8.out.cell 0
                  have p1 := HB8.out.cell 1
                  simp at p0 p1
                  have hl0 : (0 : Int) < (l.length : Int) := by omega
                  clear hz e0 hFN
                  go_wp2
                  go_roundw
                  case rel => exact ⟨k + 1, by have := HLT.out; omega, by go_num, HBN.out, HFN.out⟩
                  case measure => have := HLT.out; simp [intOf]; omega
                · have hz' : ((k : Int) == 0) = false := beq_eq_false_iff_ne.2 (by omega)
                  have hsm := said_small HK3.out
                  have hne : (saidF l).take k ≠ [] := by
                    intro h
                    have h1 : ((saidF l).take k).length = k := by rw [List.length_take]; simp [saidF]; have := HLT.out; omega
                    rw [h] at h1
                    exact hz h1.symm
                  have hsk : ∀ f ∈ (saidF l).take k, Venn.Small f := fun f hf => hsm f (List.mem_of_mem_take hf)
                  have hlk : ((saidF l).take k).length + 1 ≤ 6 := by simp [saidF]; have := HLT.out; omega
                  have hbc := Venn.andL_both hne hsk (hsm _ HFM.out) hlk
                  have hFN : Venn.andL ((saidF l).take (k + 1)) = Venn.bothF (Venn.andL ((saidF l).take k)) ⟨fl, fcd⟩ := by
                    rw [List.take_add_one, HX.out]
                    exact Venn.andL_snoc hne _
                  have HFN := Lib.hid hFN
                  generalize Venn.andL ((saidF l).take k) = F at HB8 HA8 HC8 hbc HFN hFN
                  obtain ⟨Fl, Fc⟩ := F
                  have HBO := Lib.hid (fun W (hW : Below w8.heap.size w8 W) => form_Both _ _ _ _ Fl fl Fc fcd W (HA8.out.keep hW) (HC8.out.keep hW) (HFA8.out.keep hW) (HFD8.out.keep hW) (HK.out.keep (Below.next HQ8.out hW)))
                  rw [hbc, show bothV ⟨Fl, Fc⟩ ⟨fl, fcd⟩ = Venn.bothF ⟨Fl, Fc⟩ ⟨fl, fcd⟩ from if_pos hbc] at HBO
                  simp only at HB8
                  have p0 := HB8.out.cell 0
                  have p1 := HB8.out.cell 1
                  simp at p0 p1
                  clear hsm hne hsk hlk hbc hFN hz
                  go_upto_region 30 with (fail)
                  go_region_law (go_simp; go_at_call 13; refine (HBO.out _ (by (repeat' (first | (with_reducible exact Below.refl _ _) | (with_reducible assumption) | (with_reducible refine Below.next ?_ (by with_reducible assumption)) | (with_reducible refine Below.drew ?_) | (with_reducible refine Below.laid ?_ _) | (with_reducible refine Below.setCell ?_ ?_ _) | (with_reducible refine size_of ?_) | (with_reducible refine Nat.le_succ_of_le ?_) | go_size)))).mono ?_; rintro e w9 ⟨A9, k9, C9, m9, rfl, hb9, hA9, hC9⟩; rw [errV_zero (e := 0) rfl]; have hq9 : Below w8.heap.size w8 w9 := (by (repeat' (first | (with_reducible exact Below.refl _ _) | (with_reducible assumption) | (with_reducible refine Below.next ?_ (by with_reducible assumption)) | (with_reducible refine Below.drew ?_) | (with_reducible refine Below.laid ?_ _) | (with_reducible refine Below.setCell ?_ ?_ _) | (with_reducible refine size_of ?_) | (with_reducible refine Nat.le_succ_of_le ?_) | go_size))); have BB9 := HB8.out.keep hq9; have z0 := BB9.frozen 0; have z1 := BB9.frozen 1; have y0 := BB9.cell 0; have y1 := BB9.cell 1; simp at y0 y1)
                  all_goals
                    have HNX := Lib.hid (show FSt ((w9.setCell ⟨g, 0, none⟩ (.slice A9 (Venn.bothF ⟨Fl, Fc⟩ ⟨fl, fcd⟩).atoms.length k9)).setCell ⟨g, 1, none⟩ (.slice C9 (Venn.bothF ⟨Fl, Fc⟩ ⟨fl, fcd⟩).code.length m9)) g (Venn.andL ((saidF l).take (k + 1))) from by
                      rw [HFN.out]
                      have h0 := BB9.set_ 0 (.slice A9 (Venn.bothF ⟨Fl, Fc⟩ ⟨fl, fcd⟩).atoms.length k9)
                      have h1 := h0.set_ 1 (.slice C9 (Venn.bothF ⟨Fl, Fc⟩ ⟨fl, fcd⟩).code.length m9)
                      refine ⟨A9, k9, C9, m9, by simpa using h1, ?_, ?_⟩
                      · exact (hA9.fset BB9 0 _).fset (A1 := A9) (n1 := (Venn.bothF ⟨Fl, Fc⟩ ⟨fl, fcd⟩).atoms.length) (c1 := k9) (by simpa using h0) 1 _
                      · exact (hC9.fset BB9 0 _).fset (A1 := A9) (n1 := (Venn.bothF ⟨Fl, Fc⟩ ⟨fl, fcd⟩).atoms.length) (c1 := k9) (by simpa using h0) 1 _)
                    have HBN := Lib.hid (show But (fun b => b = g) w7 ((w9.setCell ⟨g, 0, none⟩ (.slice A9 (Venn.bothF ⟨Fl, Fc⟩ ⟨fl, fcd⟩).atoms.length k9)).setCell ⟨g, 1, none⟩ (.slice C9 (Venn.bothF ⟨Fl, Fc⟩ ⟨fl, fcd⟩).code.length m9)) from ((HBT.out.trans (But.of_below hq9)).set_ (p := ⟨g, 0, none⟩) rfl _).set_ (p := ⟨g, 1, none⟩) rfl _)
                    clear hA9 hC9 y0 y1 z0 z1 BB9 hb9
                    go_wp2
                    go_roundw
                    case rel => exact ⟨k + 1, by have := HLT.out; omega, by go_num, HBN.out, HNX.out⟩
                    case measure => have := HLT.out; simp [intOf]; omega
              · have hl' : ¬ (k : Int) < (l.length : Int) := by omega
                have hFT : (saidF l).take k = saidF l := List.take_of_length_le (by simp [saidF]; omega)
                rw [hFT] at HFST
                have hne : saidF l ≠ [] := by
                  intro h
                  have := congrArg List.length h
                  simp [saidF] at this
                  exact H0.out this
                have hmod := Venn.andL_model hne (said_small HK3.out) (by simp [saidF]; omega) HU.out HK4.out
                obtain ⟨A1, c1, C1, d1, hB, hA1, hC1⟩ := HFST.out
                have HWo := Lib.hid (HW7.out _ HBR.out)
                have HQo := Lib.hid (Below.next HQ6.out HWo.out)
                have HMO := Lib.hid (model_Of _ _ (Venn.andL (saidF l)).atoms (Venn.andL (saidF l)).code u wo hA1 hC1 (HK.out.keep HQo.out))
                clear HFST hFT hne
                generalize Venn.andL (saidF l) = F at hmod hB hA1 hC1 HMO
                obtain ⟨Fl, Fc⟩ := F
                have p0 := hB.cell 0
                have p1 := hB.cell 1
                simp at p0 p1
                clear hB hA1 hC1
                go_wp2_with fail
                refine (HMO.out).mono ?_
                rintro e w8 ⟨rfl, hb8⟩
                have HQ8 := Lib.hid (Below.next HQo.out hb8)
                simp only [worldM]
                rcases hmod with h4 | ⟨h0, hall⟩
                · rw [h4, errV_ne (show (4 : Int) ≠ 0 by decide)]
                  clear h4
                  have hq9 := Below.laid HQ8.out (.cells #[.int .i64 (Venn.modelV ⟨Fl, Fc⟩ u).things, .int .i64 (Venn.modelV ⟨Fl, Fc⟩ u).a, .int .i64 (Venn.modelV ⟨Fl, Fc⟩ u).b, .int .i64 (Venn.modelV ⟨Fl, Fc⟩ u).c] 45)
                  have HER := Lib.hid (show Calls Tryz.prog 15 #[.iface 59 (.int .i64 4), .int .i64 4] _ (Keeps (.bool true) _) from by
                    have h := vennsame_Error 4 4 _ (HET.out.keep hq9)
                    rw [errV_ne (show (4 : Int) ≠ 0 by decide)] at h
                    exact h)
                  go_wp2_with fail
                  refine (HER.out).mono ?_
                  rintro e w9 ⟨rfl, hb9⟩
                  go_wp2
                  go_ret
                  exact ⟨rfl, Below.next hq9 hb9⟩
                · rw [errV_zero h0]
                  have HALL := Lib.hid hall
                  clear h0 hall p0 p1 HMO
                  generalize Venn.modelV ⟨Fl, Fc⟩ u = M at HALL ⊢
                  obtain ⟨mt, ma, mb, mc⟩ := M
                  have HH := Lib.hid (fun (k : Nat) (fl : List Venn.Atom) (fcd : List Int) (hx : (saidF l)[k]? = some (⟨fl, fcd⟩ : Venn.Form)) W sa sc (ha : IsAtoms W sa fl) (hc : IsInts W sc fcd) (hk : KindsOk W) => show Calls Tryz.prog 16 #[.agg #[sa, sc], .agg #[.int .i64 mt, .int .i64 ma, .int .i64 mb, .int .i64 mc]] W (Keeps (.tuple #[.bool true, .nilIface]) W) from by
                    obtain ⟨q1, q2⟩ := HALL.out _ (List.mem_of_getElem? hx)
                    have h := form_Holds sa sc fl fcd mt ma mb mc W ha hc hk
                    rw [q1, q2, errV_zero rfl] at h
                    exact h)
                  have BW := Blk.new w8 45 #[.int .i64 mt, .int .i64 ma, .int .i64 mb, .int .i64 mc]
                  have hx8 : Below w8.heap.size w8 (w8.alloc (.cells #[.int .i64 mt, .int .i64 ma, .int .i64 mb, .int .i64 mc] 45)) := Below.laid (Below.refl _ _) _
                  have HWB := Lib.hid (And.intro (Below.next (Below.next HWo.out hb8) hx8) (And.intro (Below.next HQ8.out hx8) BW))
                  clear BW hx8 HALL hb8
                  go_wp2
                  revert HWB
                  generalize w8.alloc (.cells #[.int .i64 mt, .int .i64 ma, .int .i64 mb, .int .i64 mc] 45) = w9
                  generalize w8.heap.size = gw
                  intro HWB
                  clear HQ8 HQo HWo HBR HLN HW7 HASK HG
                  go_loopw [19] (fun i wr => ∃ k : Nat, k ≤ l.length ∧ i = .int .i64 k ∧ Below w9.heap.size w9 wr) (fun i _ => l.length - (intOf i).toNat)
                  case atStart => exact ⟨0, Nat.zero_le _, rfl, Below.refl _ _⟩
                  case round =>
                    clear hkw hk hl'
                    obtain ⟨k, hk, rfl, hb⟩ := hrel
                    obtain ⟨wo, rfl⟩ : ∃ wo : World, wo = wr := ⟨_, rfl⟩
                    have HB := Lib.hid hb
                    have HLK := Lib.hid (show l.length ≤ 6 from hl6)
                    have hkw : IntKind.i64.wrap ((k : Int) + 1) = (k : Int) + 1 := IntWalk.i64_in _ (by omega)
                    have HQ9 := Lib.hid (Below.next HWB.out.2.1 hb)
                    have BW := HWB.out.2.2.keep hb
                    obtain ⟨b0, b1, b2, b3⟩ := BW.cells4
                    have HW6 := Lib.hid (Below.next HWB.out.1 hb)
                    clear hb BW
                    by_cases hlt : k < l.length
                    · have hl' : (k : Int) < (l.length : Int) := by omega
                      have hk0 : (0 : Int) ≤ (k : Int) := by omega
                      have HLT := Lib.hid hlt
                      obtain ⟨f, hx⟩ : ∃ y, (saidF l)[k]? = some y := ⟨_, List.getElem?_eq_getElem (by simp [saidF]; omega)⟩
                      have HX := Lib.hid hx
                      obtain ⟨FA', fc', e, hrf, -, -⟩ := HF6.out
                      injection e with e1 e2 e3
                      subst e1 e3
                      obtain ⟨ad, sa, sc, rfl, d0, d1, hfa, hfd⟩ := hrf k f hx
                      obtain ⟨fl, fcd⟩ := f
                      simp only at d0 d1 hfa hfd
                      obtain ⟨SA, sAc, rfl⟩ := hfa.slice
                      obtain ⟨SC, sCc, rfl⟩ := hfd.slice
                      have d0 := cell_keep HW6.out d0
                      have d1 := cell_keep HW6.out d1
                      have HCL := Lib.hid (fun W (hW : Below wo.heap.size wo W) => HH.out k fl fcd HX.out W _ _ (hfa.keep (Below.next HW6.out hW)) (hfd.keep (Below.next HW6.out hW)) (HK.out.keep (Below.next HQ9.out hW)))
                      clear hx hrf hfa hfd e2 hlt
                      go_upto_region 39 with (fail)
                      go_region_law (go_simp; go_at_call 16; refine (HCL.out _ (by (repeat' (first | (with_reducible exact Below.refl _ _) | (with_reducible assumption) | (with_reducible refine Below.next ?_ (by with_reducible assumption)) | (with_reducible refine Below.drew ?_) | (with_reducible refine Below.laid ?_ _) | (with_reducible refine Below.setCell ?_ ?_ _) | (with_reducible refine size_of ?_) | (with_reducible refine Nat.le_succ_of_le ?_) | go_size)))).mono ?_; rintro e w4 ⟨rfl, hb4⟩; have hq4 : Below wo.heap.size wo w4 := (by (repeat' (first | (with_reducible exact Below.refl _ _) | (with_reducible assumption) | (with_reducible refine Below.next ?_ (by with_reducible assumption)) | (with_reducible refine Below.drew ?_) | (with_reducible refine Below.laid ?_ _) | (with_reducible refine Below.setCell ?_ ?_ _) | (with_reducible refine size_of ?_) | (with_reducible refine Nat.le_succ_of_le ?_) | go_size))))
                      all_goals
                        have HB4 := Lib.hid (Below.next HB.out hq4)
                        clear hb4 hq4
                        go_wp2
                        go_roundw
                        case rel => exact ⟨k + 1, by have := HLT.out; omega, by go_num, HB4.out⟩
                        case measure => have := HLT.out; simp [intOf]; omega
                    · have hl' : ¬ (k : Int) < (l.length : Int) := by omega
                      go_wp2
                      go_ret
                      exact ⟨rfl, HQ9.out⟩
end Go.Proofs.YtjnjgcibhjdmdaaGreatDoor
