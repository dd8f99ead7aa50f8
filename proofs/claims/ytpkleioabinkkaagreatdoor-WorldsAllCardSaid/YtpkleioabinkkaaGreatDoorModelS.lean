/-
  THE WALKS of model.Missing, Against, Sure.
-/
import Derived.Test.YtpkleioabinkkaaGreatDoorModelG
import Derived.Test.YtpkleioabinkkaaGreatDoorNegate
import Derived.Test.YtpkleioabinkkaaGreatDoorLawF
namespace Go.Proofs.YtpkleioabinkkaaGreatDoor
open Go.RowKit

set_option maxHeartbeats 1000000 in
theorem model_Missing (e : Int) (he : e ≠ 0) (w : World) (hg : EtOk w) : Calls Tryz.prog 50 #[errV e] w (Keeps (.bool (e == 5)) w) := by
  rw [errV_ne he]
  have hgA : EtOk (w.alloc (.cells #[.int .i64 0] 86)) := hg.keep ((Below.refl _ w).alloc (Nat.le_refl _) _)
  have htA : (w.alloc (.cells #[.int .i64 0] 86)).cell? ⟨w.heap.size, 0, none⟩ = some (.int .i64 0) := by simp
  have hfA : (w.alloc (.cells #[.int .i64 0] 86)).frozen? ⟨w.heap.size, 0, none⟩ = false := by simp
  clear he
  go_enter Tryz.func50, Tryz.ntmps50
  go_wp2_with (go_at_call 76; refine (errors_As _ _ (.int .i64 0) _ hgA htA hfA).mono ?_; rintro e w' ⟨rfl, rfl⟩)
  go_ret
  exact ⟨rfl, by (repeat' (first | (with_reducible exact Below.refl _ _) | (with_reducible assumption) | (with_reducible refine Below.next ?_ (by with_reducible assumption)) | (with_reducible refine Below.drew ?_) | (with_reducible refine Below.laid ?_ _) | (with_reducible refine Below.setCell ?_ ?_ _) | (with_reducible refine size_of ?_) | (with_reducible refine Nat.le_succ_of_le ?_) | go_size))⟩

set_option maxHeartbeats 4000000 in
set_option maxRecDepth 100000 in
theorem model_Against (sa sc : Value) (l : List Venn.Atom) (c : List Int) (u : Int) (w : World) (ha : IsAtoms w sa l) (hc : IsInts w sc c) (hk : KindsOk w) :
    Calls Tryz.prog 15 #[.agg #[sa, sc], .int .i64 u] w (ModelPost (Venn.againstV ⟨l, c⟩ u) (Venn.againstErr ⟨l, c⟩ u) w) := by
  have HA := Lib.hid ha
  have HC := Lib.hid hc
  have HK := Lib.hid hk
  obtain ⟨A, cA, rfl, _⟩ := ha
  obtain ⟨C, cC, rfl, _⟩ := hc
  have HNG := Lib.hid (fun W (hW : Below w.heap.size w W) => form_Negate _ _ l c W (HA.out.keep hW) (HC.out.keep hW) (HK.out.keep hW))
  have HB0 := Lib.hid ((Blk.new w 25 #[.slice A l.length cA, .slice C c.length cC]).alloc (.cells #[.int .i64 0, .int .i64 0, .int .i64 0, .int .i64 0] 28))
  have HR0 := Lib.hid (Blk.newAt (w := w.alloc (.cells #[.slice A l.length cA, .slice C c.length cC] 25)) (g := w.heap.size + 1) (by simp) 28 #[.int .i64 0, .int .i64 0, .int .i64 0, .int .i64 0])
  have hb0 : Below w.heap.size w ((w.alloc (.cells #[.slice A l.length cA, .slice C c.length cC] 25)).alloc (.cells #[.int .i64 0, .int .i64 0, .int .i64 0, .int .i64 0] 28)) := by (repeat' (first | (with_reducible exact Below.refl _ _) | (with_reducible assumption) | (with_reducible refine Below.next ?_ (by with_reducible assumption)) | (with_reducible refine Below.drew ?_) | (with_reducible refine Below.laid ?_ _) | (with_reducible refine Below.setCell ?_ ?_ _) | (with_reducible refine size_of ?_) | (with_reducible refine Nat.le_succ_of_le ?_) | go_size))
  clear hk
  have b0 := (HB0.out).cell 0
  have b1 := (HB0.out).cell 1
  simp at b0 b1
  have HE := Lib.hid (show Venn.againstErr ⟨l, c⟩ u = if Venn.negChk ⟨l, c⟩ = 0 then Venn.modelErr (Venn.negF ⟨l, c⟩) u else Venn.negChk ⟨l, c⟩ from rfl)
  have HV := Lib.hid (show Venn.againstV ⟨l, c⟩ u = if Venn.negChk ⟨l, c⟩ = 0 then Venn.modelV (Venn.negF ⟨l, c⟩) u else ⟨0, 0, 0, 0⟩ from rfl)
  generalize Venn.againstErr ⟨l, c⟩ u = ME at HE ⊢
  generalize Venn.againstV ⟨l, c⟩ u = MV at HV ⊢
  by_cases hz : Venn.negChk ⟨l, c⟩ = 0
  · have HE := Lib.hid (show ME = Venn.modelErr (Venn.negF ⟨l, c⟩) u by rw [HE.out, if_pos hz])
    have HV := Lib.hid (show MV = Venn.modelV (Venn.negF ⟨l, c⟩) u by rw [HV.out, if_pos hz])
    have HN := Lib.hid (show negV ⟨l, c⟩ = Venn.negF ⟨l, c⟩ by unfold negV; rw [if_pos hz])
    rw [HN.out, hz] at HNG
    generalize Venn.negF ⟨l, c⟩ = NF at HNG HE HV
    obtain ⟨nl, nc⟩ := NF
    clear hz
    go_enter Tryz.func15, Tryz.ntmps15
    go_wp2_with fail
    refine (HNG.out _ hb0).mono ?_
    rintro e w1 ⟨NA, kA, NC, kC, rfl, hb1, hna, hnc⟩
    rw [errV_zero rfl]
    have hq1 := Below.next hb0 hb1
    have HR1 := Lib.hid ((HR0.out).keep hb1)
    clear b0 b1
    simp only at hna hnc ⊢
    have hb2 : Below w1.heap.size w1 (w1.alloc (.cells #[.slice NA nl.length kA, .slice NC nc.length kC] 25)) := by (repeat' (first | (with_reducible exact Below.refl _ _) | (with_reducible assumption) | (with_reducible refine Below.next ?_ (by with_reducible assumption)) | (with_reducible refine Below.drew ?_) | (with_reducible refine Below.laid ?_ _) | (with_reducible refine Below.setCell ?_ ?_ _) | (with_reducible refine size_of ?_) | (with_reducible refine Nat.le_succ_of_le ?_) | go_size))
    obtain ⟨⟨g0, g1⟩, _⟩ := (Blk.new w1 25 #[.slice NA nl.length kA, .slice NC nc.length kC]).cells2
    have hq2 := Below.next hq1 hb2
    have HMO := Lib.hid (model_Of _ _ nl nc u _ (hna.keep hb2) (hnc.keep hb2) (HK.out.keep hq2))
    generalize Venn.modelErr ⟨nl, nc⟩ u = NE at HMO HE
    generalize Venn.modelV ⟨nl, nc⟩ u = NV at HMO HV
    obtain ⟨mt, ma, mb, mc⟩ := NV
    clear hna hnc
    go_wp2_with fail
    refine (HMO.out).mono ?_
    rintro e w3 ⟨he, hb3⟩
    simp only [worldM] at he
    subst he
    have hq3 := Below.next hq2 hb3
    have BR := ((HR1.out).keep hb2).keep hb3
    clear g0 g1
    obtain ⟨EV, hEV⟩ : ∃ EV, EV = errV NE := ⟨_, rfl⟩
    rw [← hEV]
    have HEV := Lib.hid hEV
    clear hEV
    obtain ⟨r0, r1, r2, r3⟩ := (BR).cells4
    have s0 := (BR).frozen 0
    have s1 := (BR).frozen 1
    have s2 := (BR).frozen 2
    have s3 := (BR).frozen 3
    have GL := below_set4m (hq3) (show w.heap.size ≤ w.heap.size + 1 by omega) (.int .i64 mt) (.int .i64 ma) (.int .i64 mb) (.int .i64 mc)
    have GS := (BR).set4m (.int .i64 mt) (.int .i64 ma) (.int .i64 mb) (.int .i64 mc)
    go_wp2
    clear r0 r1 r2 r3 s0 s1 s2 s3
    revert GL GS
    generalize World.setCell _ _ _ = Wf
    intro GL GS
    obtain ⟨e0, e1, e2, e3⟩ := GS.cells4
    refine bodyPost_ret (v := .tuple #[.agg #[.int .i64 mt, .int .i64 ma, .int .i64 mb, .int .i64 mc], EV]) (by simp [results, Tryz.results15, go_sem, e0, e1, e2, e3]) rfl ⟨by rw [HE.out, HV.out, HEV.out]; rfl, GL⟩
  · have HN := Lib.hid (show negV ⟨l, c⟩ = noForm by unfold negV; rw [if_neg hz])
    have HZ := Lib.hid (errV_ne hz)
    have HE := Lib.hid (show errV ME = errV (Venn.negChk ⟨l, c⟩) by rw [HE.out, if_neg hz])
    have HV := Lib.hid (show MV = ⟨0, 0, 0, 0⟩ by rw [HV.out, if_neg hz])
    rw [HZ.out] at HE
    rw [HN.out] at HNG
    clear hz
    go_enter Tryz.func15, Tryz.ntmps15
    go_wp2_with fail
    refine (HNG.out _ hb0).mono ?_
    rintro e w1 ⟨NA, kA, NC, kC, rfl, hb1, _, _⟩
    rw [HZ.out]
    have hq1 := Below.next hb0 hb1
    have hb2 : Below w1.heap.size w1 (w1.alloc (.cells #[.slice NA noForm.atoms.length kA, .slice NC noForm.code.length kC] 25)) := by (repeat' (first | (with_reducible exact Below.refl _ _) | (with_reducible assumption) | (with_reducible refine Below.next ?_ (by with_reducible assumption)) | (with_reducible refine Below.drew ?_) | (with_reducible refine Below.laid ?_ _) | (with_reducible refine Below.setCell ?_ ?_ _) | (with_reducible refine size_of ?_) | (with_reducible refine Nat.le_succ_of_le ?_) | go_size))
    have hq2 := Below.next hq1 hb2
    have BR := ((HR0.out).keep hb1).keep hb2
    clear b0 b1
    generalize Venn.negChk ⟨l, c⟩ = EE at HE ⊢
    obtain ⟨r0, r1, r2, r3⟩ := (BR).cells4
    have s0 := (BR).frozen 0
    have s1 := (BR).frozen 1
    have s2 := (BR).frozen 2
    have s3 := (BR).frozen 3
    have GL := below_set4m (hq2) (show w.heap.size ≤ w.heap.size + 1 by omega) (.int .i64 0) (.int .i64 0) (.int .i64 0) (.int .i64 0)
    have GS := (BR).set4m (.int .i64 0) (.int .i64 0) (.int .i64 0) (.int .i64 0)
    go_wp2
    clear r0 r1 r2 r3 s0 s1 s2 s3
    revert GL GS
    generalize World.setCell _ _ _ = Wf
    intro GL GS
    obtain ⟨e0, e1, e2, e3⟩ := GS.cells4
    refine bodyPost_ret (v := .tuple #[.agg #[.int .i64 0, .int .i64 0, .int .i64 0, .int .i64 0], .iface 86 (.int .i64 EE)]) (by simp [results, Tryz.results15, go_sem, e0, e1, e2, e3]) rfl ⟨by rw [HE.out, HV.out]; rfl, GL⟩

set_option maxHeartbeats 4000000 in
set_option maxRecDepth 100000 in
theorem model_Sure (sa sc : Value) (l : List Venn.Atom) (c : List Int) (u : Int) (w : World) (ha : IsAtoms w sa l) (hc : IsInts w sc c) (hk : KindsOk w) (het : EtOk w) :
    Calls Tryz.prog 17 #[.agg #[sa, sc], .int .i64 u] w (Keeps (.tuple #[.bool (Venn.sureV ⟨l, c⟩ u), errV (Venn.sureErr ⟨l, c⟩ u)]) w) := by
  have HA := Lib.hid ha
  have HC := Lib.hid hc
  have HK := Lib.hid hk
  have HET := Lib.hid het
  obtain ⟨A, cA, rfl, _⟩ := ha
  obtain ⟨C, cC, rfl, _⟩ := hc
  have HCH := Lib.hid (fun W (hW : Below w.heap.size w W) => form_Check _ _ l c W (HA.out.keep hW) (HC.out.keep hW) (HK.out.keep hW))
  have HAG := Lib.hid (fun W (hW : Below w.heap.size w W) => model_Against _ _ l c u W (HA.out.keep hW) (HC.out.keep hW) (HK.out.keep hW))
  have HB0 := Lib.hid (Blk.new w 25 #[.slice A l.length cA, .slice C c.length cC])
  have hb0 : Below w.heap.size w (w.alloc (.cells #[.slice A l.length cA, .slice C c.length cC] 25)) := by (repeat' (first | (with_reducible exact Below.refl _ _) | (with_reducible assumption) | (with_reducible refine Below.next ?_ (by with_reducible assumption)) | (with_reducible refine Below.drew ?_) | (with_reducible refine Below.laid ?_ _) | (with_reducible refine Below.setCell ?_ ?_ _) | (with_reducible refine size_of ?_) | (with_reducible refine Nat.le_succ_of_le ?_) | go_size))
  clear hk het
  have b0 := (HB0.out).cell 0
  have b1 := (HB0.out).cell 1
  simp at b0 b1
  have HE := Lib.hid (show Venn.sureErr ⟨l, c⟩ u = if Venn.formChk ⟨l, c⟩ = 0 then (if Venn.againstErr ⟨l, c⟩ u = 0 ∨ Venn.againstErr ⟨l, c⟩ u = 5 then 0 else Venn.againstErr ⟨l, c⟩ u) else Venn.formChk ⟨l, c⟩ from rfl)
  have HV := Lib.hid (show Venn.sureV ⟨l, c⟩ u = if Venn.formChk ⟨l, c⟩ = 0 then decide (Venn.againstErr ⟨l, c⟩ u = 5) else false from rfl)
  generalize Venn.sureErr ⟨l, c⟩ u = ME at HE ⊢
  generalize Venn.sureV ⟨l, c⟩ u = MV at HV ⊢
  by_cases hz : Venn.formChk ⟨l, c⟩ = 0
  · have HE := Lib.hid (show ME = if Venn.againstErr ⟨l, c⟩ u = 0 ∨ Venn.againstErr ⟨l, c⟩ u = 5 then 0 else Venn.againstErr ⟨l, c⟩ u by rw [HE.out, if_pos hz])
    have HV := Lib.hid (show MV = decide (Venn.againstErr ⟨l, c⟩ u = 5) by rw [HV.out, if_pos hz])
    rw [hz, errV_zero rfl] at HCH
    generalize Venn.againstErr ⟨l, c⟩ u = AE at HE HV HAG
    generalize Venn.againstV ⟨l, c⟩ u = AW at HAG
    obtain ⟨mt, ma, mb, mc⟩ := AW
    clear hz
    by_cases h0 : AE = 0
    · have HE := Lib.hid (show ME = 0 by rw [HE.out, if_pos (.inl h0)])
      have HV := Lib.hid (show MV = false by rw [HV.out, h0]; rfl)
      rw [h0] at HAG
      clear h0
      go_enter Tryz.func17, Tryz.ntmps17
      go_wp2_with fail
      refine (HCH.out _ hb0).mono ?_
      rintro e w1 ⟨rfl, hb1⟩
      have hq1 := Below.next hb0 hb1
      clear b0 b1
      have b0 := ((HB0.out).keep hb1).cell 0
      have b1 := ((HB0.out).keep hb1).cell 1
      simp at b0 b1
      go_wp2_with fail
      refine (HAG.out _ hq1).mono ?_
      rintro e w2 ⟨he, hb2⟩
      simp only [worldM] at he
      rw [errV_zero rfl] at he
      subst he
      have hq2 := Below.next hq1 hb2
      go_wp2
      go_ret2
      exact ⟨by rw [HE.out, HV.out, errV_zero rfl]; rfl, by (repeat' (first | (with_reducible exact Below.refl _ _) | (with_reducible assumption) | (with_reducible refine Below.next ?_ (by with_reducible assumption)) | (with_reducible refine Below.drew ?_) | (with_reducible refine Below.laid ?_ _) | (with_reducible refine Below.setCell ?_ ?_ _) | (with_reducible refine size_of ?_) | (with_reducible refine Nat.le_succ_of_le ?_) | go_size))⟩
    · have HMI := Lib.hid (fun W (hW : Below w.heap.size w W) => model_Missing AE h0 W (HET.out.keep hW))
      have HNE := Lib.hid (errV_ne h0)
      rw [HNE.out] at HMI
      by_cases h5 : AE = 5
      · have HE := Lib.hid (show ME = 0 by rw [HE.out, if_pos (.inr h5)])
        have HV := Lib.hid (show MV = true by rw [HV.out, decide_eq_true h5])
        rw [show (AE == 5) = true by rw [h5]; rfl] at HMI
        clear h0 h5
        go_enter Tryz.func17, Tryz.ntmps17
        go_wp2_with fail
        refine (HCH.out _ hb0).mono ?_
        rintro e w1 ⟨rfl, hb1⟩
        have hq1 := Below.next hb0 hb1
        clear b0 b1
        have b0 := ((HB0.out).keep hb1).cell 0
        have b1 := ((HB0.out).keep hb1).cell 1
        simp at b0 b1
        go_wp2_with fail
        refine (HAG.out _ hq1).mono ?_
        rintro e w2 ⟨he, hb2⟩
        simp only [worldM] at he
        rw [HNE.out] at he
        subst he
        have hq2 := Below.next hq1 hb2
        clear b0 b1
        have hb3 : Below w.heap.size w (w2.alloc (.cells #[.int .i64 mt, .int .i64 ma, .int .i64 mb, .int .i64 mc] 28)) := by (repeat' (first | (with_reducible exact Below.refl _ _) | (with_reducible assumption) | (with_reducible refine Below.next ?_ (by with_reducible assumption)) | (with_reducible refine Below.drew ?_) | (with_reducible refine Below.laid ?_ _) | (with_reducible refine Below.setCell ?_ ?_ _) | (with_reducible refine size_of ?_) | (with_reducible refine Nat.le_succ_of_le ?_) | go_size))
        go_wp2_with fail
        refine (HMI.out _ hb3).mono ?_
        rintro e w3 ⟨rfl, hb4⟩
        have hq3 := Below.next hb3 hb4
        go_wp2
        go_ret2
        exact ⟨by rw [HE.out, HV.out, errV_zero rfl]; rfl, hq3⟩
      · have HE := Lib.hid (show errV ME = .iface 86 (.int .i64 AE) by rw [HE.out, if_neg (by omega), HNE.out])
        have HV := Lib.hid (show MV = false by rw [HV.out, decide_eq_false h5])
        rw [show (AE == 5) = false from beq_eq_false_iff_ne.2 h5] at HMI
        clear h0 h5
        go_enter Tryz.func17, Tryz.ntmps17
        go_wp2_with fail
        refine (HCH.out _ hb0).mono ?_
        rintro e w1 ⟨rfl, hb1⟩
        have hq1 := Below.next hb0 hb1
        clear b0 b1
        have b0 := ((HB0.out).keep hb1).cell 0
        have b1 := ((HB0.out).keep hb1).cell 1
        simp at b0 b1
        go_wp2_with fail
        refine (HAG.out _ hq1).mono ?_
        rintro e w2 ⟨he, hb2⟩
        simp only [worldM] at he
        rw [HNE.out] at he
        subst he
        have hq2 := Below.next hq1 hb2
        clear b0 b1
        have hb3 : Below w.heap.size w (w2.alloc (.cells #[.int .i64 mt, .int .i64 ma, .int .i64 mb, .int .i64 mc] 28)) := by (repeat' (first | (with_reducible exact Below.refl _ _) | (with_reducible assumption) | (with_reducible refine Below.next ?_ (by with_reducible assumption)) | (with_reducible refine Below.drew ?_) | (with_reducible refine Below.laid ?_ _) | (with_reducible refine Below.setCell ?_ ?_ _) | (with_reducible refine size_of ?_) | (with_reducible refine Nat.le_succ_of_le ?_) | go_size))
        go_wp2_with fail
        refine (HMI.out _ hb3).mono ?_
        rintro e w3 ⟨rfl, hb4⟩
        have hq3 := Below.next hb3 hb4
        go_wp2
        go_ret2
        exact ⟨by rw [HE.out, HV.out]; rfl, hq3⟩
  · have HZ := Lib.hid (errV_ne hz)
    have HE := Lib.hid (show errV ME = errV (Venn.formChk ⟨l, c⟩) by rw [HE.out, if_neg hz])
    have HV := Lib.hid (show MV = false by rw [HV.out, if_neg hz])
    rw [HZ.out] at HE HCH
    generalize Venn.formChk ⟨l, c⟩ = EE at HE HCH
    clear hz
    go_enter Tryz.func17, Tryz.ntmps17
    go_wp2_with fail
    refine (HCH.out _ hb0).mono ?_
    rintro e w1 ⟨rfl, hb1⟩
    have hq1 := Below.next hb0 hb1
    go_wp2
    go_ret2
    exact ⟨by rw [HE.out, HV.out]; rfl, hq1⟩
end Go.Proofs.YtpkleioabinkkaaGreatDoor
