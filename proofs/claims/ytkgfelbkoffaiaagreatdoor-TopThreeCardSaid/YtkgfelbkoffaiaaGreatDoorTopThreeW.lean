/-
  THE WALK of venntop.TopThree.
-/
import Derived.Test.YtkgfelbkoffaiaaGreatDoorVennThree
import Derived.Test.YtkgfelbkoffaiaaGreatDoorModelS
import Derived.Test.YtkgfelbkoffaiaaGreatDoorTopOne
import Derived.Test.YtkgfelbkoffaiaaGreatDoorRowOf
import Derived.Test.YtkgfelbkoffaiaaGreatDoorFit
import Derived.Test.YtkgfelbkoffaiaaGreatDoorCoreSome
import Derived.Deep.DeepCutAuto
namespace Go.Proofs.YtkgfelbkoffaiaaGreatDoor
open Go.RowKit

/-- The law's box lies. -/
structure TtAt (w wx : World) (sa sc : Value) : Prop where
  below : Below w.heap.size w wx
  form : Blk wx w.heap.size 25 #[sa, sc]
theorem TtAt.keep {w wx wy : World} {sa sc : Value} (h : TtAt w wx sa sc) (hb : Below wx.heap.size wx wy) : TtAt w wy sa sc := ⟨Below.next h.below hb, h.form.keep hb⟩
theorem cubes_six {l : List Venn.Atom} {c : List Int} (h : Venn.cubesErr ⟨l, c⟩ = 0) : Venn.formChk ⟨l, c⟩ = 0 ∧ l.length ≤ 6 ∧ (∀ a ∈ l, Venn.atomChk a = 0) ∧ ∀ x ∈ Venn.cubesV ⟨l, c⟩, x.length ≤ 6 ∧ ∀ m ∈ x, m ≠ 0 ∧ -(l.length : Int) ≤ m ∧ m ≤ l.length := by
  obtain ⟨hf, L, hL, hv⟩ := Venn.cubesErr_form h
  obtain ⟨p1, p2, _⟩ := Venn.formChk_parts hf
  refine ⟨hf, p2, Venn.chk_atoms hf, fun x hx => ?_⟩
  rw [hv] at hx
  exact ⟨((Venn.cubesO_ok hf hL).1.1 x hx).2.2, Venn.cubes_in hf hL x hx⟩
theorem many_lines {l : List Venn.Atom} {u : Int} {x : List Int} (hu : Venn.things u = true) (ha : ∀ a ∈ l, Venn.atomChk a = 0) (h6 : x.length ≤ 6) (hm : ∀ m ∈ x, m ≠ 0 ∧ -(l.length : Int) ≤ m ∧ m ≤ l.length) : manyV u (Venn.linesV l x) = .tuple #[.int .i64 (Venn.manyFit u (Venn.linesV l x)), .nilIface] := by
  have h : Venn.fitChk u (Venn.linesV l x) = 0 := by
    unfold Venn.fitChk Venn.rowsChk
    rw [if_pos hu, if_neg (by rw [Venn.linesV_len]; omega), if_pos (lines_ok ha hm)]
  rw [manyV, if_pos h]
set_option maxHeartbeats 8000000 in
set_option maxRecDepth 100000 in
theorem topThree_walk (sa sc : Value) (l : List Venn.Atom) (c : List Int) (u : Int) (w : World) (ha : IsAtoms w sa l) (hc : IsInts w sc c) (hk : KindsOk w) (het : EtOk w) :
    Calls Tryz.prog 3 #[.agg #[sa, sc], .int .i64 u] w (Keeps (.bool true) w) := by
  have HA := Lib.hid ha
  have HC := Lib.hid hc
  have HK := Lib.hid hk
  have HET := Lib.hid het
  obtain ⟨A, cA, rfl, hra, _, _⟩ := ha
  obtain ⟨C, cC, rfl, _⟩ := hc
  have HRA := Lib.hid hra
  have HONE := Lib.hid (fun W (hW : Below w.heap.size w W) => venntop_one W (HK.out.keep hW))
  have HOF := Lib.hid (fun W (hW : Below w.heap.size w W) => cubes_Of _ _ l c W (HA.out.keep hW) (HC.out.keep hW) (HK.out.keep hW))
  have HMO := Lib.hid (fun W (hW : Below w.heap.size w W) => model_Of _ _ l c u W (HA.out.keep hW) (HC.out.keep hW) (HK.out.keep hW))
  have HWF := Lib.hid (fun W (hW : Below w.heap.size w W) => worlds_Of _ _ l c u W (HA.out.keep hW) (HC.out.keep hW) (HK.out.keep hW))
  have HCO := Lib.hid (fun v W (hW : Below w.heap.size w W) (h : IsForms W v [⟨l, c⟩]) => core_Open v [⟨l, c⟩] u W h (HK.out.keep hW))
  have HER := Lib.hid (fun (e : Int) W (hW : Below w.heap.size w W) => vennsame_Error e 5 W (HET.out.keep hW))
  have HT0 := Lib.hid (show TtAt w (w.alloc (.cells #[.slice A l.length cA, .slice C c.length cC] 25)) (.slice A l.length cA) (.slice C c.length cC) from ⟨by (repeat' (first | (with_reducible exact Below.refl _ _) | (with_reducible assumption) | (with_reducible refine Below.next ?_ (by with_reducible assumption)) | (with_reducible refine Below.drew ?_) | (with_reducible refine Below.laid ?_ _) | (with_reducible refine Below.setCell ?_ ?_ _) | (with_reducible refine size_of ?_) | (with_reducible refine Nat.le_succ_of_le ?_) | go_size)), Blk.new w _ _⟩)
  clear hra hk het
  by_cases hg : Venn.cubesErr ⟨l, c⟩ = 0 ∧ ¬ u < 0 ∧ ¬ 6 < u
  · obtain ⟨hz, hu0, hu6⟩ := hg
    have hu : Venn.things u = true := by unfold Venn.things; simp; omega
    obtain ⟨hf, hl6, hat, hcs⟩ := cubes_six hz
    obtain ⟨hwc, h3⟩ := Venn.three_model hz hu
    have HWV := Lib.hid (show worldsVv ⟨l, c⟩ u = .tuple #[.int .i64 (Venn.worldsV ⟨l, c⟩ u), .nilIface] by rw [worldsVv, errV_zero hwc])
    have HOV := Lib.hid (show openVv [⟨l, c⟩] u = .tuple #[.bool (Venn.openV [⟨l, c⟩] u), .nilIface] from openVv_ok (Venn.coreChk_one hf hu) rfl)
    have HMANY := Lib.hid (fun x (hx : x ∈ Venn.cubesV ⟨l, c⟩) => many_lines hu hat (hcs x hx).1 (hcs x hx).2)
    have HNINE := Lib.hid (fun x (hx : x ∈ Venn.cubesV ⟨l, c⟩) => rows_nine hat (hcs x hx).2)
    have HAT := Lib.hid hat
    have HCS := Lib.hid hcs
    have HTHREE := Lib.hid h3
    have HZ := Lib.hid (errV_zero hz)
    rw [HWV.out] at HWF
    rw [HOV.out] at HCO
    clear HWV HOV hz hu hf hat hcs hwc h3
    simp only at HTHREE
    have HPS := Lib.hid (fun k (x : List Int) h => Venn.piece_step l u (Venn.cubesV ⟨l, c⟩) k (c := x) h)
    generalize Venn.worldsV ⟨l, c⟩ u = WV at HWF HTHREE
    generalize Venn.openV [⟨l, c⟩] u = OV at HCO HTHREE
    generalize Venn.modelErr ⟨l, c⟩ u = ME at HMO HTHREE
    generalize Venn.modelV ⟨l, c⟩ u = MV at HMO
    obtain ⟨mt, ma, mb, mc⟩ := MV
    go_enter Tryz.func3, Tryz.ntmps3
    go_upto_region 1 with (fail)
    revert HT0
    generalize w.alloc (.cells #[.slice A l.length cA, .slice C c.length cC] 25) = w0
    intro HT0
    go_wp2_with fail
    refine (HONE.out _ HT0.out.below).mono ?_
    rintro e w1 ⟨rfl, hb1⟩
    have HT1 := Lib.hid (HT0.out.keep hb1)
    clear hb1 HT0 HONE
    have b0 := HT1.out.form.cell 0
    have b1 := HT1.out.form.cell 1
    simp at b0 b1
    go_wp2_with fail
    refine (HOF.out _ HT1.out.below).mono ?_
    rintro e w2 ⟨hb2, LV, rfl, hI2⟩
    have HT2 := Lib.hid (HT1.out.keep hb2)
    clear b0 b1 hb2 HT1 HOF
    rw [HZ.out]
    generalize Venn.cubesV ⟨l, c⟩ = CV at HTHREE HMANY HNINE HCS HPS hI2
    have HI2 := Lib.hid hI2
    obtain ⟨P, k1, p, rfl, rfl, hrp, hop, s5, s6⟩ := hI2
    have hn1 : p.length ≤ 9223372036854775807 := by unfold maxLen at s6; omega
    have HRP := Lib.hid hrp
    have HOP := Lib.hid hop
    clear hrp hop s5 s6
    have b0 := HT2.out.form.cell 0
    have b1 := HT2.out.form.cell 1
    simp at b0 b1
    go_wp2_with fail
    refine (HMO.out _ HT2.out.below).mono ?_
    rintro e w3 ⟨he, hb3⟩
    simp only [worldM] at he
    subst he
    have HT3 := Lib.hid (HT2.out.keep hb3)
    clear b0 b1 HT2 HMO
    obtain ⟨V2, hV2⟩ : ∃ V, V = errV ME := ⟨_, rfl⟩
    rw [← hV2]
    have HV2 := Lib.hid hV2
    clear hV2
    have b0 := HT3.out.form.cell 0
    have b1 := HT3.out.form.cell 1
    simp at b0 b1
    go_wp2_with fail
    refine (HWF.out _ HT3.out.below).mono ?_
    rintro e w4 ⟨rfl, hb4⟩
    have HT4 := Lib.hid (HT3.out.keep hb4)
    clear b0 b1 HT3 HWF
    have b0 := HT4.out.form.cell 0
    have b1 := HT4.out.form.cell 1
    simp at b0 b1
    have hbx : Below w4.heap.size w4 (w4.alloc (.cells #[.slice A l.length cA, .slice C c.length cC] 25)) := by have w := w4; (repeat' (first | (with_reducible exact Below.refl _ _) | (with_reducible assumption) | (with_reducible refine Below.next ?_ (by with_reducible assumption)) | (with_reducible refine Below.drew ?_) | (with_reducible refine Below.laid ?_ _) | (with_reducible refine Below.setCell ?_ ?_ _) | (with_reducible refine size_of ?_) | (with_reducible refine Nat.le_succ_of_le ?_) | go_size))
    have HT5 := Lib.hid (HT4.out.keep hbx)
    have HF5 := Lib.hid (IsForms.one (f := ⟨l, c⟩) (Blk.new w4 25 #[.slice A l.length cA, .slice C c.length cC]) (HA.out.keep HT5.out.below) (HC.out.keep HT5.out.below))
    go_wp2_with fail
    refine (HCO.out _ _ HT5.out.below HF5.out).mono ?_
    rintro e w6 ⟨rfl, hb6⟩
    have HT6 := Lib.hid (HT5.out.keep hb6)
    have hb26 := Below.next (Below.next (Below.next hb3 hb4) hbx) hb6
    have HRP6 := Lib.hid (HRP.out.keep hb26)
    have HOP6 := Lib.hid (HOP.out.keep hb26)
    clear b0 b1 hb3 hb4 hbx hb6 hb26 HF5 HT5 HT4 HCO HRP HOP HI2
    go_upto_region 10 with (fail)
    go_cut [73] (fun z wx => z = .bool false ∧ Below w6.heap.size w6 wx)
    case first =>
      have HM0 := Lib.hid (HER.out ME _ HT6.out.below)
      rcases HTHREE.out with ⟨h0, -⟩ | ⟨h5, -⟩
      · obtain rfl : V2 = .nilIface := by rw [HV2.out, errV_zero h0]
        clear h0 HV2
        go_wp2
        go_meet
        case rel => exact ⟨rfl, Below.refl _ _⟩
      · obtain rfl : V2 = .iface 80 (.int .i64 5) := by rw [HV2.out, h5, errV_ne (by decide)]
        rw [h5, errV_ne (show (5 : Int) ≠ 0 by decide)] at HM0
        clear h5 HV2
        go_wp2_with fail
        refine (HM0.out).mono ?_
        rintro e w7 ⟨rfl, hb7⟩
        go_wp2
        go_meet
        case rel => exact ⟨rfl, hb7⟩
    case rest =>
    obtain ⟨rfl, hb7⟩ := hcut
    obtain ⟨w7, rfl⟩ : ∃ w7 : World, w7 = wc := ⟨_, rfl⟩
    have HT7 := Lib.hid (HT6.out.keep hb7)
    have HRP7 := Lib.hid (HRP6.out.keep hb7)
    have HOP7 := Lib.hid (HOP6.out.keep hb7)
    clear hb7 HT6 HRP6 HOP6 HER
    go_wp2
    go_loopw [12, 13] (fun q i wr => ∃ k : Nat, k ≤ p.length ∧ i = .int .i64 k ∧ q = .bool (Venn.pieceV l u ((lVals p).take k)) ∧ Below w7.heap.size w7 wr) (fun _ i _ => p.length - (intOf i).toNat)
    case atStart => exact ⟨0, Nat.zero_le _, rfl, rfl, Below.refl _ _⟩
    case round =>
      obtain ⟨k, hk, rfl, rfl, hbw⟩ := hrel
      obtain ⟨wo, rfl⟩ : ∃ wo : World, wo = wr := ⟨_, rfl⟩
      have HTo := Lib.hid (HT7.out.keep hbw)
      have HBW := Lib.hid hbw
      have hki : IntKind.i64.wrap (k : Int) = (k : Int) := IntWalk.i64_in _ (by omega)
      by_cases hlt : k < p.length
      · obtain ⟨⟨x, xv⟩, hx⟩ : ∃ x, p[k]? = some x := ⟨p[k], List.getElem?_eq_getElem hlt⟩
        obtain ⟨ad, rfl, hc0⟩ := HRP7.out k xv (by unfold lCells; rw [List.getElem?_map, hx]; rfl)
        have HC0 := Lib.hid (cell_keep hbw hc0)
        have hxi := (HOP7.out _ (List.mem_of_getElem? hx)).keep hbw
        have hxmem := lVals_mem (List.mem_of_getElem? hx)
        have HXC := Lib.hid (HCS.out _ hxmem)
        have HXM := Lib.hid (HMANY.out _ hxmem)
        have HX9 := Lib.hid (HNINE.out _ hxmem)
        have HXP := Lib.hid (HPS.out k x (by unfold lVals; rw [List.getElem?_map, hx]; rfl))
        simp only at hxi HXC HXM HX9
        obtain ⟨X, cX, rfl, hrx, _⟩ := hxi
        have HRX := Lib.hid hrx
        have hk1 : (k : Int) < (p.length : Int) := by omega
        have hk0 : (0 : Int) ≤ (k : Int) := by omega
        have hkw : IntKind.i64.wrap ((k : Int) + 1) = (k : Int) + 1 := IntWalk.i64_in _ (by omega)
        clear hc0 hx hbw hrx hxmem
        generalize Venn.pieceV l u ((lVals p).take k) = PB at HXP ⊢
        have hcx := HC0.out
        go_wp2
        go_loopw [14, 15] (fun v j wr => ∃ m : Nat, m ≤ x.length ∧ j = .int .i64 m ∧ wr.ownsRow wo.heap.size 46 9 v m (flat9 (Venn.linesV l (x.take m))) ∧ Below wo.heap.size wo wr) (fun _ j _ => x.length - (intOf j).toNat)
        case atStart => exact ⟨0, Nat.zero_le _, rfl, World.ownsRow_nil _ _ _ _, Below.refl _ _⟩
        case round =>
          clear hcx
          obtain ⟨m, hm, rfl, hown, hbi⟩ := hrel
          obtain ⟨wi, rfl⟩ : ∃ wi : World, wi = wr := ⟨_, rfl⟩
          have HTi := Lib.hid (HTo.out.keep hbi)
          have HBI := Lib.hid hbi
          have hcx := cell_keep hbi HC0.out
          obtain ⟨V0, k0, rfl⟩ := ownsRow_slice hown
          have HO := Lib.hid hown
          have hq := HTi.out.below
          clear hown hbi
          have hmi : IntKind.i64.wrap (m : Int) = (m : Int) := IntWalk.i64_in _ (by have := HXC.out.1; omega)
          by_cases hmt : m < x.length
          · have hm1 : (m : Int) < (x.length : Int) := by omega
            have hm0 : (0 : Int) ≤ (m : Int) := by omega
            have hmw : IntKind.i64.wrap ((m : Int) + 1) = (m : Int) + 1 := IntWalk.i64_in _ (by have := HXC.out.1; omega)
            obtain ⟨ad2, rfl, hd0⟩ := HRX.out.int hmt
            have hcd := cell_keep HBI.out hd0
            have hmm := HXC.out.2 _ (List.getElem_mem hmt)
            have hx6 := HXC.out.1
            have HL := Lib.hid (Venn.linesV_step l x m hmt)
            generalize x[m] = z at hd0 hcd hmm HL
            obtain ⟨N, hN⟩ : ∃ N : Nat, (N : Int) = Venn.absI z - 1 := ⟨(Venn.absI z - 1).toNat, by unfold Venn.absI; split <;> omega⟩
            have hNl : N < l.length := by unfold Venn.absI at hN; split at hN <;> omega
            obtain ⟨⟨aw, aS, aT, an⟩, hx⟩ : ∃ y, l[N]? = some y := ⟨l[N], List.getElem?_eq_getElem hNl⟩
            obtain ⟨bd, sv, tv, rfl, g0, g1, g2, g3, hs, ht⟩ := HRA.out N _ hx
            have hrow : Venn.rowOf l z = Venn.rowL ⟨aw, aS, aT, an⟩ (decide (0 < z)) := by
              unfold Venn.rowOf
              rw [show (Venn.absI z - 1).toNat = N by omega, hx]
            rw [hrow] at HL
            have hac := HAT.out _ (List.mem_of_getElem? hx)
            have HRR := Lib.hid (rows_Of aw an sv tv aS aT (decide (0 < z)) wi (hs.keep hq) (ht.keep hq) (HK.out.keep hq))
            rw [errV_zero hac, show rowOfV ⟨aw, aS, aT, an⟩ (decide (0 < z)) = rowV ⟨aw, aS, aT, an⟩ (decide (0 < z)) by rw [rowOfV, if_pos hac]] at HRR
            have g0 := cell_keep hq g0
            have g1 := cell_keep hq g1
            have g2 := cell_keep hq g2
            have g3 := cell_keep hq g3
            obtain ⟨S1, cS1, rfl, _⟩ := hs
            obtain ⟨T1, cT1, rfl, _⟩ := ht
            simp at g0 g1 g2 g3
            have f0 := HTi.out.form.cell 0
            have f1 := HTi.out.form.cell 1
            simp at f0 f1
            have e1 : IntKind.i64.wrap (N : Int) = (N : Int) := IntWalk.i64_in _ (by omega)
            have e3 : (N : Int) < (l.length : Int) := by omega
            have e4 : (0 : Int) ≤ (N : Int) := by omega
            have e5 : ¬ (N : Int) < 0 := by omega
            have e6 : ¬ (l.length : Int) ≤ (N : Int) := by omega
            clear hd0 hx hrow hac
            by_cases hneg : z < 0
            · have hz1 : IntKind.i64.wrap (z - 1) = z - 1 := IntWalk.i64_in _ (by omega)
              have hz2 : IntKind.i64.wrap (-z) = -z := IntWalk.i64_in _ (by omega)
              have hz3 : IntKind.i64.wrap (-z - 1) = (N : Int) := by rw [IntWalk.i64_in _ (by omega)]; unfold Venn.absI at hN; split at hN <;> omega
              have hz4 : ¬ 0 < z := by omega
              rw [decide_eq_false hz4] at HRR HL
              clear hmm hN
              go_wp2_with fail
              refine (HRR.out).mono ?_
              rintro e w5 ⟨rfl, hb5⟩
              clear g0 g1 g2 g3 hcx hcd f0 f1
              obtain ⟨r0, r1, r2, r3, r4, r5, r6, r7, r8, hv, hl⟩ := row_open ⟨aw, aS, aT, an⟩ false
              rw [hl] at HL
              rw [hv]
              clear hv hl
              have hb6 : Below w5.heap.size w5 ((w5.alloc (.cells #[.int .i64 r0, .int .i64 r1, .int .i64 r2, .int .i64 r3, .int .i64 r4, .int .i64 r5, .int .i64 r6, .int .i64 r7, .int .i64 r8] 46)).alloc (.cells #[.int .i64 r0, .int .i64 r1, .int .i64 r2, .int .i64 r3, .int .i64 r4, .int .i64 r5, .int .i64 r6, .int .i64 r7, .int .i64 r8] 46)) := by have w := w5; (repeat' (first | (with_reducible exact Below.refl _ _) | (with_reducible assumption) | (with_reducible refine Below.next ?_ (by with_reducible assumption)) | (with_reducible refine Below.drew ?_) | (with_reducible refine Below.laid ?_ _) | (with_reducible refine Below.setCell ?_ ?_ _) | (with_reducible refine size_of ?_) | (with_reducible refine Nat.le_succ_of_le ?_) | go_size))
              have hb56 := Below.next hb5 hb6
              have hbase : wo.heap.size ≤ ((w5.alloc (.cells #[.int .i64 r0, .int .i64 r1, .int .i64 r2, .int .i64 r3, .int .i64 r4, .int .i64 r5, .int .i64 r6, .int .i64 r7, .int .i64 r8] 46)).alloc (.cells #[.int .i64 r0, .int .i64 r1, .int .i64 r2, .int .i64 r3, .int .i64 r4, .int .i64 r5, .int .i64 r6, .int .i64 r7, .int .i64 r8] 46)).heap.size := by have h1 := HBI.out.size; have h2 := hb56.size; omega
              have hrd := rd_row (w5.alloc (.cells #[.int .i64 r0, .int .i64 r1, .int .i64 r2, .int .i64 r3, .int .i64 r4, .int .i64 r5, .int .i64 r6, .int .i64 r7, .int .i64 r8] 46)) 46 r0 r1 r2 r3 r4 r5 r6 r7 r8
              have HO2 := Lib.hid (own_below HO.out hb56)
              obtain ⟨⟨e0, e1, e2, e3, e4, e5, e6, e7, e8⟩, _⟩ := ((Blk.new w5 46 #[.int .i64 r0, .int .i64 r1, .int .i64 r2, .int .i64 r3, .int .i64 r4, .int .i64 r5, .int .i64 r6, .int .i64 r7, .int .i64 r8])).cells9
              go_wp2_with (at_builtin; refine wpList_appRows _ rfl _ _ rfl wo.heap.size _ m _ rfl HO2.out (some ⟨w5.heap.size + 1, 0, none⟩) 1 [[r0, r1, r2, r3, r4, r5, r6, r7, r8]] (by simp [go_sem]) (by simpa using hrd) (by simp) (by simp; omega) hbase ?_)
              intro v' w7 hown3 hg3
              have hbel := (Below.next HBI.out hb56).grown hg3 (Nat.le_trans HBI.out.size hb56.size) (fun b e => (HO.out.lt b e).1)
              have HO3 := Lib.hid (show w7.ownsRow wo.heap.size 46 9 v' (m + 1) (flat9 (Venn.linesV l (x.take (m + 1)))) by rw [HL.out, flat9_app]; exact hown3)
              clear hown3 hg3 hrd hb6 hb56 hbase e0 e1 e2 e3 e4 e5 e6 e7 e8
              go_wp2
              go_roundw
              case rel => exact ⟨m + 1, by omega, by go_num, HO3.out, hbel⟩
              case measure => simp [intOf]; omega
            · have hz1 : IntKind.i64.wrap (z - 1) = (N : Int) := by rw [IntWalk.i64_in _ (by omega)]; unfold Venn.absI at hN; split at hN <;> omega
              have hz4 : 0 < z := by omega
              rw [decide_eq_true hz4] at HRR HL
              clear hmm hN
              go_wp2_with fail
              refine (HRR.out).mono ?_
              rintro e w5 ⟨rfl, hb5⟩
              clear g0 g1 g2 g3 hcx hcd f0 f1
              obtain ⟨r0, r1, r2, r3, r4, r5, r6, r7, r8, hv, hl⟩ := row_open ⟨aw, aS, aT, an⟩ true
              rw [hl] at HL
              rw [hv]
              clear hv hl
              have hb6 : Below w5.heap.size w5 ((w5.alloc (.cells #[.int .i64 r0, .int .i64 r1, .int .i64 r2, .int .i64 r3, .int .i64 r4, .int .i64 r5, .int .i64 r6, .int .i64 r7, .int .i64 r8] 46)).alloc (.cells #[.int .i64 r0, .int .i64 r1, .int .i64 r2, .int .i64 r3, .int .i64 r4, .int .i64 r5, .int .i64 r6, .int .i64 r7, .int .i64 r8] 46)) := by have w := w5; (repeat' (first | (with_reducible exact Below.refl _ _) | (with_reducible assumption) | (with_reducible refine Below.next ?_ (by with_reducible assumption)) | (with_reducible refine Below.drew ?_) | (with_reducible refine Below.laid ?_ _) | (with_reducible refine Below.setCell ?_ ?_ _) | (with_reducible refine size_of ?_) | (with_reducible refine Nat.le_succ_of_le ?_) | go_size))
              have hb56 := Below.next hb5 hb6
              have hbase : wo.heap.size ≤ ((w5.alloc (.cells #[.int .i64 r0, .int .i64 r1, .int .i64 r2, .int .i64 r3, .int .i64 r4, .int .i64 r5, .int .i64 r6, .int .i64 r7, .int .i64 r8] 46)).alloc (.cells #[.int .i64 r0, .int .i64 r1, .int .i64 r2, .int .i64 r3, .int .i64 r4, .int .i64 r5, .int .i64 r6, .int .i64 r7, .int .i64 r8] 46)).heap.size := by have h1 := HBI.out.size; have h2 := hb56.size; omega
              have hrd := rd_row (w5.alloc (.cells #[.int .i64 r0, .int .i64 r1, .int .i64 r2, .int .i64 r3, .int .i64 r4, .int .i64 r5, .int .i64 r6, .int .i64 r7, .int .i64 r8] 46)) 46 r0 r1 r2 r3 r4 r5 r6 r7 r8
              have HO2 := Lib.hid (own_below HO.out hb56)
              obtain ⟨⟨e0, e1, e2, e3, e4, e5, e6, e7, e8⟩, _⟩ := ((Blk.new w5 46 #[.int .i64 r0, .int .i64 r1, .int .i64 r2, .int .i64 r3, .int .i64 r4, .int .i64 r5, .int .i64 r6, .int .i64 r7, .int .i64 r8])).cells9
              go_wp2_with (at_builtin; refine wpList_appRows _ rfl _ _ rfl wo.heap.size _ m _ rfl HO2.out (some ⟨w5.heap.size + 1, 0, none⟩) 1 [[r0, r1, r2, r3, r4, r5, r6, r7, r8]] (by simp [go_sem]) (by simpa using hrd) (by simp) (by simp; omega) hbase ?_)
              intro v' w7 hown3 hg3
              have hbel := (Below.next HBI.out hb56).grown hg3 (Nat.le_trans HBI.out.size hb56.size) (fun b e => (HO.out.lt b e).1)
              have HO3 := Lib.hid (show w7.ownsRow wo.heap.size 46 9 v' (m + 1) (flat9 (Venn.linesV l (x.take (m + 1)))) by rw [HL.out, flat9_app]; exact hown3)
              clear hown3 hg3 hrd hb6 hb56 hbase e0 e1 e2 e3 e4 e5 e6 e7 e8
              go_wp2
              go_roundw
              case rel => exact ⟨m + 1, by omega, by go_num, HO3.out, hbel⟩
              case measure => simp [intOf]; omega
          · have hm' : m = x.length := by omega
            have hm1 : ¬ (m : Int) < (x.length : Int) := by omega
            have HI := Lib.hid (show IsRows wi (.slice V0 m k0) (Venn.linesV l x) by
              have := HO.out
              rw [hm', List.take_length] at this
              rw [hm']
              exact IsRows.of_own this HX9.out)
            have HFM := Lib.hid (fit_Many u _ _ wi HI.out)
            rw [HXM.out] at HFM
            clear hm'
            generalize Venn.manyFit u (Venn.linesV l x) = MF at HFM HXP
            go_wp2_with fail
            refine (HFM.out).mono ?_
            rintro e w8 ⟨rfl, hb8⟩
            have hbn := Below.next HBW.out (Below.next HBI.out hb8)
            clear hcx
            cases PB
            · have HXP := Lib.hid (show Venn.pieceV l u ((lVals p).take (k + 1)) = decide (0 < MF) by rw [HXP.out]; rfl)
              go_wp2
              go_roundw
              case rel => exact ⟨k + 1, by omega, by go_num, by rw [HXP.out], hbn⟩
              case measure => simp [intOf]; omega
            · have HXP := Lib.hid (show Venn.pieceV l u ((lVals p).take (k + 1)) = true by rw [HXP.out]; rfl)
              go_wp2
              go_roundw
              case rel => exact ⟨k + 1, by omega, by go_num, by rw [HXP.out], hbn⟩
              case measure => simp [intOf]; omega
      · have hk' : k = p.length := by omega
        have hk1 : ¬ (k : Int) < (p.length : Int) := by omega
        have HPB := Lib.hid (show Venn.pieceV l u ((lVals p).take k) = Venn.pieceV l u (lVals p) by rw [hk', List.take_of_length_le (by rw [lVals_len]; exact Nat.le_refl _)])
        rw [HPB.out]
        clear hk' hbw
        rcases HTHREE.out with ⟨h0, n0, o0, p0⟩ | ⟨h5, n0, o0, p0⟩
        · rw [p0, o0]
          obtain rfl : V2 = .nilIface := by rw [HV2.out, errV_zero h0]
          clear h0 o0 p0 HV2
          go_wp2
          go_ret
          exact ⟨rfl, HTo.out.below⟩
        · rw [p0, o0]
          obtain rfl : V2 = .iface 80 (.int .i64 5) := by rw [HV2.out, h5, errV_ne (by decide)]
          clear h5 o0 p0 HV2
          go_wp2
          go_ret
          exact ⟨by simp; omega, HTo.out.below⟩
  · by_cases hz : Venn.cubesErr ⟨l, c⟩ = 0
    · have HZ := Lib.hid (errV_zero hz)
      have hor : u < 0 ∨ (¬ u < 0 ∧ 6 < u) := by
        by_cases h : u < 0
        · exact .inl h
        · by_cases h2 : 6 < u
          · exact .inr ⟨h, h2⟩
          · exact absurd ⟨hz, h, h2⟩ hg
      clear hz hg
      go_enter Tryz.func3, Tryz.ntmps3
      go_upto_region 1 with (fail)
      revert HT0
      generalize w.alloc (.cells #[.slice A l.length cA, .slice C c.length cC] 25) = w0
      intro HT0
      go_wp2_with fail
      refine (HONE.out _ HT0.out.below).mono ?_
      rintro e w1 ⟨rfl, hb1⟩
      have HT1 := Lib.hid (HT0.out.keep hb1)
      clear hb1 HT0 HONE
      have b0 := HT1.out.form.cell 0
      have b1 := HT1.out.form.cell 1
      simp at b0 b1
      go_wp2_with fail
      refine (HOF.out _ HT1.out.below).mono ?_
      rintro e w2 ⟨hb2, LV, rfl, hI2⟩
      have HT2 := Lib.hid (HT1.out.keep hb2)
      clear b0 b1 hb2 HT1 HOF
      rw [HZ.out]
      obtain ⟨P, k1, rfl⟩ := hI2.sliceM
      rcases hor with h1 | ⟨h1, h2⟩
      all_goals
        go_wp2
        go_ret
        exact ⟨rfl, HT2.out.below⟩
    · have HZ := Lib.hid (errV_ne hz)
      clear hz hg
      go_enter Tryz.func3, Tryz.ntmps3
      go_upto_region 1 with (fail)
      revert HT0
      generalize w.alloc (.cells #[.slice A l.length cA, .slice C c.length cC] 25) = w0
      intro HT0
      go_wp2_with fail
      refine (HONE.out _ HT0.out.below).mono ?_
      rintro e w1 ⟨rfl, hb1⟩
      have HT1 := Lib.hid (HT0.out.keep hb1)
      clear hb1 HT0 HONE
      have b0 := HT1.out.form.cell 0
      have b1 := HT1.out.form.cell 1
      simp at b0 b1
      go_wp2_with fail
      refine (HOF.out _ HT1.out.below).mono ?_
      rintro e w2 ⟨hb2, LV, rfl, hI2⟩
      have HT2 := Lib.hid (HT1.out.keep hb2)
      clear b0 b1 hb2 HT1 HOF
      rw [HZ.out]
      obtain ⟨P, k1, rfl⟩ := hI2.sliceM
      go_wp2
      go_ret
      exact ⟨rfl, HT2.out.below⟩
end Go.Proofs.YtkgfelbkoffaiaaGreatDoor
