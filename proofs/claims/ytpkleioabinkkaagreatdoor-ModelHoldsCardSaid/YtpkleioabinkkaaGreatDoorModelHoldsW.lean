/-
  THE WALK of vennlaw1.ModelHolds.
-/
import Derived.Test.YtpkleioabinkkaaGreatDoorVennHolds
import Derived.Test.YtpkleioabinkkaaGreatDoorModelS
import Derived.Test.YtpkleioabinkkaaGreatDoorFormHolds
import Derived.Test.YtpkleioabinkkaaGreatDoorFormG
import Derived.Test.YtpkleioabinkkaaGreatDoorLawF
import Derived.Deep.DeepCutAuto
namespace Go.Proofs.YtpkleioabinkkaaGreatDoor
open Go.RowKit

theorem one_at (w0 : World) : Below w0.heap.size w0 ((((w0.alloc (.cells #[.int .i64 0] 3)).alloc (.cells #[.int .i64 3, .slice (some ⟨w0.heap.size, 0, none⟩) 1 1, .slice none 0 0, .int .i64 2] 46)).alloc (.cells #[.int .i64 0] 3)).alloc (.cells #[.slice (some ⟨w0.heap.size + 1, 0, none⟩) 1 1, .slice (some ⟨w0.heap.size + 1 + 1, 0, none⟩) 1 1] 25)) ∧ Blk ((((w0.alloc (.cells #[.int .i64 0] 3)).alloc (.cells #[.int .i64 3, .slice (some ⟨w0.heap.size, 0, none⟩) 1 1, .slice none 0 0, .int .i64 2] 46)).alloc (.cells #[.int .i64 0] 3)).alloc (.cells #[.slice (some ⟨w0.heap.size + 1, 0, none⟩) 1 1, .slice (some ⟨w0.heap.size + 1 + 1, 0, none⟩) 1 1] 25)) (w0.heap.size + 1 + 1 + 1) 25 #[.slice (some ⟨w0.heap.size + 1, 0, none⟩) 1 1, .slice (some ⟨w0.heap.size + 1 + 1, 0, none⟩) 1 1] ∧ IsAtoms ((((w0.alloc (.cells #[.int .i64 0] 3)).alloc (.cells #[.int .i64 3, .slice (some ⟨w0.heap.size, 0, none⟩) 1 1, .slice none 0 0, .int .i64 2] 46)).alloc (.cells #[.int .i64 0] 3)).alloc (.cells #[.slice (some ⟨w0.heap.size + 1, 0, none⟩) 1 1, .slice (some ⟨w0.heap.size + 1 + 1, 0, none⟩) 1 1] 25)) (.slice (some ⟨w0.heap.size + 1, 0, none⟩) 1 1) [⟨3, [0], [], 2⟩] ∧ IsInts ((((w0.alloc (.cells #[.int .i64 0] 3)).alloc (.cells #[.int .i64 3, .slice (some ⟨w0.heap.size, 0, none⟩) 1 1, .slice none 0 0, .int .i64 2] 46)).alloc (.cells #[.int .i64 0] 3)).alloc (.cells #[.slice (some ⟨w0.heap.size + 1, 0, none⟩) 1 1, .slice (some ⟨w0.heap.size + 1 + 1, 0, none⟩) 1 1] 25)) (.slice (some ⟨w0.heap.size + 1 + 1, 0, none⟩) 1 1) [0] := by
  have B1 : Blk ((((w0.alloc (.cells #[.int .i64 0] 3)).alloc (.cells #[.int .i64 3, .slice (some ⟨w0.heap.size, 0, none⟩) 1 1, .slice none 0 0, .int .i64 2] 46)).alloc (.cells #[.int .i64 0] 3)).alloc (.cells #[.slice (some ⟨w0.heap.size + 1, 0, none⟩) 1 1, .slice (some ⟨w0.heap.size + 1 + 1, 0, none⟩) 1 1] 25)) w0.heap.size 3 #[.int .i64 0] := (((Blk.new w0 _ _).alloc _).alloc _).alloc _
  have B2 : Blk ((((w0.alloc (.cells #[.int .i64 0] 3)).alloc (.cells #[.int .i64 3, .slice (some ⟨w0.heap.size, 0, none⟩) 1 1, .slice none 0 0, .int .i64 2] 46)).alloc (.cells #[.int .i64 0] 3)).alloc (.cells #[.slice (some ⟨w0.heap.size + 1, 0, none⟩) 1 1, .slice (some ⟨w0.heap.size + 1 + 1, 0, none⟩) 1 1] 25)) (w0.heap.size + 1) 46 #[.int .i64 3, .slice (some ⟨w0.heap.size, 0, none⟩) 1 1, .slice none 0 0, .int .i64 2] := ((Blk.newAt (by simp) _ _).alloc _).alloc _
  have B3 : Blk ((((w0.alloc (.cells #[.int .i64 0] 3)).alloc (.cells #[.int .i64 3, .slice (some ⟨w0.heap.size, 0, none⟩) 1 1, .slice none 0 0, .int .i64 2] 46)).alloc (.cells #[.int .i64 0] 3)).alloc (.cells #[.slice (some ⟨w0.heap.size + 1, 0, none⟩) 1 1, .slice (some ⟨w0.heap.size + 1 + 1, 0, none⟩) 1 1] 25)) (w0.heap.size + 1 + 1) 3 #[.int .i64 0] := (Blk.newAt (by simp) _ _).alloc _
  exact ⟨by have w := w0; (repeat' (first | (with_reducible exact Below.refl _ _) | (with_reducible assumption) | (with_reducible refine Below.next ?_ (by with_reducible assumption)) | (with_reducible refine Below.drew ?_) | (with_reducible refine Below.laid ?_ _) | (with_reducible refine Below.setCell ?_ ?_ _) | (with_reducible refine size_of ?_) | (with_reducible refine Nat.le_succ_of_le ?_) | go_size)), Blk.newAt (by simp) _ _, IsAtoms.one B2 (IsInts.of_blk1 B1) (IsIntsNil _), IsInts.of_blk1 B3⟩
theorem error_fiveH (w : World) (hg : EtOk w) : Calls Tryz.prog 13 #[.iface 86 (.int .i64 5), .int .i64 5] w (Keeps (.bool true) w) := by
  have h := vennsame_Error 5 5 w hg
  rw [errV_ne (show (5 : Int) ≠ 0 by decide)] at h
  exact h
theorem error_nilH (w : World) (hg : EtOk w) : Calls Tryz.prog 13 #[.nilIface, .int .i64 5] w (Keeps (.bool false) w) := by
  have h := vennsame_Error 0 5 w hg
  rw [errV_zero rfl] at h
  exact h
/-- The law's two boxes lie. -/
structure MhAt (w wx : World) (sa sc th a b d : Value) : Prop where
  below : Below w.heap.size w wx
  form : Blk wx w.heap.size 25 #[sa, sc]
  world : Blk wx (w.heap.size + 1) 28 #[th, a, b, d]
theorem MhAt.keep {w wx wy : World} {sa sc th a b d : Value} (h : MhAt w wx sa sc th a b d) (hb : Below wx.heap.size wx wy) : MhAt w wy sa sc th a b d := ⟨Below.next h.below hb, h.form.keep hb, h.world.keep hb⟩
theorem MhAt.alloc {w wx : World} {sa sc th a b d : Value} (h : MhAt w wx sa sc th a b d) (o : Obj) : MhAt w (wx.alloc o) sa sc th a b d := h.keep ((Below.refl _ _).alloc (Nat.le_refl _) o)
set_option maxHeartbeats 8000000 in
set_option maxRecDepth 100000 in
theorem modelHolds_walk (sa sc : Value) (l : List Venn.Atom) (c : List Int) (u th a b d : Int) (w : World) (ha : IsAtoms w sa l) (hc : IsInts w sc c) (hk : KindsOk w) (het : EtOk w) :
    Calls Tryz.prog 5 #[.agg #[sa, sc], .int .i64 u, .agg #[.int .i64 th, .int .i64 a, .int .i64 b, .int .i64 d]] w (Keeps (.bool true) w) := by
  have HA := Lib.hid ha
  have HC := Lib.hid hc
  have HK := Lib.hid hk
  have HET := Lib.hid het
  obtain ⟨A, cA, rfl, _⟩ := ha
  obtain ⟨C, cC, rfl, _⟩ := hc
  have HMO := Lib.hid (fun W (hW : Below w.heap.size w W) => model_Of _ _ l c u W (HA.out.keep hW) (HC.out.keep hW) (HK.out.keep hW))
  have HAG := Lib.hid (fun W (hW : Below w.heap.size w W) => model_Against _ _ l c u W (HA.out.keep hW) (HC.out.keep hW) (HK.out.keep hW))
  have HSU := Lib.hid (fun W (hW : Below w.heap.size w W) => model_Sure _ _ l c u W (HA.out.keep hW) (HC.out.keep hW) (HK.out.keep hW) (HET.out.keep hW))
  have HFH := Lib.hid (fun x y z t W (hW : Below w.heap.size w W) => form_Holds _ _ l c x y z t W (HA.out.keep hW) (HC.out.keep hW) (HK.out.keep hW))
  have HFC := Lib.hid (fun W (hW : Below w.heap.size w W) => form_Check _ _ l c W (HA.out.keep hW) (HC.out.keep hW) (HK.out.keep hW))
  have HM1 := Lib.hid (fun sa sc W (hW : Below w.heap.size w W) (ha : IsAtoms W sa _) (hc : IsInts W sc _) => model_Of sa sc (Venn.manyF 0 2).atoms (Venn.manyF 0 2).code 2 W ha hc (HK.out.keep hW))
  have HM2 := Lib.hid (fun sa sc W (hW : Below w.heap.size w W) (ha : IsAtoms W sa _) (hc : IsInts W sc _) => model_Of sa sc (Venn.manyF 0 2).atoms (Venn.manyF 0 2).code 1 W ha hc (HK.out.keep hW))
  rw [show (⟨(Venn.manyF 0 2).atoms, (Venn.manyF 0 2).code⟩ : Venn.Form) = Venn.manyF 0 2 from rfl] at HM1 HM2
  obtain ⟨k1, k2, k3, k4, k5⟩ := Venn.one_two
  rw [k1] at HM1
  rw [k5] at HM2
  rw [show (Venn.manyF 0 2).atoms = [⟨3, [0], [], 2⟩] from rfl, show (Venn.manyF 0 2).code = [0] from rfl] at HM1 HM2
  generalize Venn.modelV (Venn.manyF 0 2) 2 = XF at HM1 k2 k3 k4
  generalize Venn.modelV (Venn.manyF 0 2) 1 = XG at HM2
  obtain ⟨t8, a8, b8, d8⟩ := XF
  obtain ⟨t9, a9, b9, d9⟩ := XG
  simp only at k2 k3 k4
  subst k2 k3 k4
  clear k1 k5
  -- the plain facts
  have HP1 := Lib.hid (Venn.model_zero (f := ⟨l, c⟩) (u := u))
  have HP2 := Lib.hid (fun (h : Venn.modelErr ⟨l, c⟩ u = 5) (hh : Venn.formHoldsChk ⟨l, c⟩ ⟨th, a, b, d⟩ = 0) (ht : th = u) => show Venn.formHoldsV ⟨l, c⟩ ⟨th, a, b, d⟩ = false by
    obtain ⟨h1, h2, h3⟩ := Venn.holds_parts hh
    rw [h3]
    exact Venn.model_five h h1 h2 ht)
  have HP3 := Lib.hid (Venn.sure_zero (f := ⟨l, c⟩) (u := u))
  have HP4 := Lib.hid (fun (h : Venn.againstErr ⟨l, c⟩ u = 5) (hh : Venn.formHoldsChk ⟨l, c⟩ ⟨th, a, b, d⟩ = 0) (ht : th = u) => show Venn.formHoldsV ⟨l, c⟩ ⟨th, a, b, d⟩ = true by
    obtain ⟨h1, h2, h3⟩ := Venn.holds_parts hh
    rw [h3]
    exact Venn.again_five h h1 h2 ht)
  have HP5 := Lib.hid (Venn.again_zero (f := ⟨l, c⟩) (u := u))
  have HFW := Lib.hid (fun W (hW : Below w.heap.size w W) => HFH.out th a b d W hW)
  have HFG := Lib.hid (show ∀ (X : Venn.World) (v : Bool) (W : World) (_ : Below w.heap.size w W), Venn.formChk ⟨l, c⟩ = 0 → Venn.worldChk X = 0 → Venn.formTrue ⟨l, c⟩ X = v → Calls Tryz.prog 20 #[.agg #[.slice A l.length cA, .slice C c.length cC], worldM X] W (Keeps (.tuple #[.bool v, .nilIface]) W) from fun X v W hW h1 h2 h3 => by
    obtain ⟨x0, x1, x2, x3⟩ := X
    obtain ⟨g1, g2⟩ := Venn.holds_mk h1 h2
    have := HFH.out x0 x1 x2 x3 W hW
    rw [g2, g1, h3, errV_zero rfl] at this
    exact this)
  have HFX := Lib.hid (show Venn.modelErr ⟨l, c⟩ u = 0 → (Venn.modelV ⟨l, c⟩ u).things = u ∧ ∀ W (hW : Below w.heap.size w W), Calls Tryz.prog 20 #[.agg #[.slice A l.length cA, .slice C c.length cC], worldM (Venn.modelV ⟨l, c⟩ u)] W (Keeps (.tuple #[.bool true, .nilIface]) W) from fun h => by
    obtain ⟨h1, h2, h3, h4⟩ := HP1.out h
    exact ⟨h3, fun W hW => HFG.out _ _ W hW h1 h2 h4⟩)
  have HFY := Lib.hid (show Venn.againstErr ⟨l, c⟩ u = 0 → (Venn.againstV ⟨l, c⟩ u).things = u ∧ ∀ W (hW : Below w.heap.size w W), Calls Tryz.prog 20 #[.agg #[.slice A l.length cA, .slice C c.length cC], worldM (Venn.againstV ⟨l, c⟩ u)] W (Keeps (.tuple #[.bool false, .nilIface]) W) from fun h => by
    obtain ⟨h1, h2, h3, h4⟩ := HP5.out h
    exact ⟨h3, fun W hW => HFG.out _ _ W hW h1 h2 h4⟩)
  clear HP1 HP5 HFH HFG
  generalize Venn.formHoldsV ⟨l, c⟩ ⟨th, a, b, d⟩ = HV at HFW HP2 HP4
  generalize Venn.formHoldsChk ⟨l, c⟩ ⟨th, a, b, d⟩ = HE at HFW HP2 HP4
  generalize Venn.modelErr ⟨l, c⟩ u = E1 at HMO HP2 HFX
  generalize Venn.modelV ⟨l, c⟩ u = X1 at HMO HFX
  generalize Venn.sureErr ⟨l, c⟩ u = SE at HSU HP3
  generalize Venn.sureV ⟨l, c⟩ u = SV at HSU HP3
  generalize Venn.againstErr ⟨l, c⟩ u = AE at HAG HP3 HP4 HFY
  generalize Venn.againstV ⟨l, c⟩ u = AW at HAG HFY
  generalize Venn.formChk ⟨l, c⟩ = FC at HFC HP3
  obtain ⟨t1, a1, b1, d1⟩ := X1
  obtain ⟨t2, a2, b2, d2⟩ := AW
  simp only [worldM] at HFX HFY
  have HT0 := Lib.hid (show MhAt w ((w.alloc (.cells #[.slice A l.length cA, .slice C c.length cC] 25)).alloc (.cells #[.int .i64 th, .int .i64 a, .int .i64 b, .int .i64 d] 28)) (.slice A l.length cA) (.slice C c.length cC) (.int .i64 th) (.int .i64 a) (.int .i64 b) (.int .i64 d) from
    ⟨by (repeat' (first | (with_reducible exact Below.refl _ _) | (with_reducible assumption) | (with_reducible refine Below.next ?_ (by with_reducible assumption)) | (with_reducible refine Below.drew ?_) | (with_reducible refine Below.laid ?_ _) | (with_reducible refine Below.setCell ?_ ?_ _) | (with_reducible refine size_of ?_) | (with_reducible refine Nat.le_succ_of_le ?_) | go_size)), (Blk.new w _ _).alloc _, Blk.newAt (by simp) _ _⟩)
  clear hk het
  go_enter Tryz.func5, Tryz.ntmps5
  go_upto_region 1 with (fail)
  revert HT0
  generalize (w.alloc (.cells #[.slice A l.length cA, .slice C c.length cC] 25)).alloc (.cells #[.int .i64 th, .int .i64 a, .int .i64 b, .int .i64 d] 28) = w0
  intro HT0
  obtain ⟨o1, o2, o3, o4⟩ := one_at w0
  go_upto_region 2 with (fail)
  revert o1 o2 o3 o4
  generalize ((((w0.alloc (.cells #[.int .i64 0] 3)).alloc (.cells #[.int .i64 3, .slice (some ⟨w0.heap.size, 0, none⟩) 1 1, .slice none 0 0, .int .i64 2] 46)).alloc (.cells #[.int .i64 0] 3)).alloc (.cells #[.slice (some ⟨w0.heap.size + 1, 0, none⟩) 1 1, .slice (some ⟨w0.heap.size + 1 + 1, 0, none⟩) 1 1] 25)) = w1
  intro o1 o2 o3 o4
  have HT1 := Lib.hid (HT0.out.keep o1)
  have O2 := Lib.hid o2
  have O3 := Lib.hid o3
  have O4 := Lib.hid o4
  clear o1 o2 o3 o4 HT0
  have b0 := O2.out.cell 0
  have b1' := O2.out.cell 1
  simp at b0 b1'
  go_wp2_with fail
  refine (HM1.out _ _ w1 HT1.out.below O3.out O4.out).mono ?_
  rintro e w2 ⟨he, hb2⟩
  simp only [worldM] at he
  rw [errV_zero rfl] at he
  subst he
  have hb3 : Below w2.heap.size w2 (w2.alloc (.cells #[.int .i64 2, .int .i64 3, .int .i64 3, .int .i64 d8] 28)) := by have w := w2; (repeat' (first | (with_reducible exact Below.refl _ _) | (with_reducible assumption) | (with_reducible refine Below.next ?_ (by with_reducible assumption)) | (with_reducible refine Below.drew ?_) | (with_reducible refine Below.laid ?_ _) | (with_reducible refine Below.setCell ?_ ?_ _) | (with_reducible refine size_of ?_) | (with_reducible refine Nat.le_succ_of_le ?_) | go_size))
  have hb13 := Below.next hb2 hb3
  have BX := Lib.hid (Blk.new w2 28 #[.int .i64 2, .int .i64 3, .int .i64 3, .int .i64 d8])
  clear b0 b1'
  have b0 := (O2.out.keep hb13).cell 0
  have b1' := (O2.out.keep hb13).cell 1
  simp at b0 b1'
  go_wp2_with fail
  refine (HM2.out _ _ _ (HT1.out.keep hb13).below (O3.out.keep hb13) (O4.out.keep hb13)).mono ?_
  rintro e w4 ⟨he, hb4⟩
  simp only [worldM] at he
  rw [errV_ne (show (5 : Int) ≠ 0 by decide)] at he
  subst he
  have hb5 : Below w4.heap.size w4 (w4.alloc (.cells #[.int .i64 t9, .int .i64 a9, .int .i64 b9, .int .i64 d9] 28)) := by have w := w4; (repeat' (first | (with_reducible exact Below.refl _ _) | (with_reducible assumption) | (with_reducible refine Below.next ?_ (by with_reducible assumption)) | (with_reducible refine Below.drew ?_) | (with_reducible refine Below.laid ?_ _) | (with_reducible refine Below.setCell ?_ ?_ _) | (with_reducible refine size_of ?_) | (with_reducible refine Nat.le_succ_of_le ?_) | go_size))
  have HT4 := Lib.hid ((HT1.out.keep hb13).keep (Below.next hb4 hb5))
  have BX4 := Lib.hid (BX.out.keep (Below.next hb4 hb5))
  clear b0 b1' hb4 hb5 hb13 hb2 hb3 BX O2 O3 O4 HT1
  go_wp2_with fail
  refine (error_fiveH _ (HET.out.keep HT4.out.below)).mono ?_
  rintro e w5 ⟨rfl, hb6⟩
  have HT5 := Lib.hid (HT4.out.keep hb6)
  have BX5 := BX4.out.keep hb6
  obtain ⟨x0, x1, x2, x3⟩ := BX5.cells4
  go_upto_region 6 with (fail)
  clear x0 x1 x2 x3 BX5 BX4 HT4 hb6
  have b0 := HT5.out.form.cell 0
  have b1' := HT5.out.form.cell 1
  simp at b0 b1'
  go_wp2_with fail
  refine (HMO.out _ HT5.out.below).mono ?_
  rintro e w6 ⟨he, hb6⟩
  simp only [worldM] at he
  subst he
  have HT6 := Lib.hid ((HT5.out.keep hb6).alloc (.cells #[.int .i64 t1, .int .i64 a1, .int .i64 b1, .int .i64 d1] 28))
  have BX6 := Lib.hid (Blk.new w6 28 #[.int .i64 t1, .int .i64 a1, .int .i64 b1, .int .i64 d1])
  clear b0 b1' hb6 HT5
  have b0 := HT6.out.form.cell 0
  have b1' := HT6.out.form.cell 1
  obtain ⟨z0, z1, z2, z3⟩ := HT6.out.world.cells4
  simp at b0 b1'
  go_wp2_with fail
  refine (HFW.out _ HT6.out.below).mono ?_
  rintro e w7 ⟨rfl, hb7⟩
  have HT7 := Lib.hid (HT6.out.keep hb7)
  have BX7 := Lib.hid (BX6.out.keep hb7)
  generalize w6.heap.size = GX at BX7 ⊢
  clear b0 b1' z0 z1 z2 z3 hb7 HT6 BX6
  go_upto_region 8 with (fail)
  obtain ⟨VE, hVE⟩ : ∃ V, V = errV HE := ⟨_, rfl⟩
  obtain ⟨V1, hV1⟩ : ∃ V, V = errV E1 := ⟨_, rfl⟩
  rw [← hVE, ← hV1]
  have HVE := Lib.hid hVE
  have HV1 := Lib.hid hV1
  clear hVE hV1
  obtain ⟨MI, hMI⟩ : ∃ M, M = (decide (HE = 0) && (th == u)) := ⟨_, rfl⟩
  have HMI := Lib.hid hMI
  clear hMI
  go_cut [16] (fun s wx => s = .bool MI ∧ wx = w7)
  case first =>
    obtain ⟨z0, z1, z2, z3⟩ := HT7.out.world.cells4
    by_cases h0 : HE = 0
    · have HM := Lib.hid (show MI = (th == u) by rw [HMI.out, decide_eq_true h0]; rfl)
      obtain rfl : VE = .nilIface := by rw [HVE.out, errV_zero h0]
      clear h0 HVE
      go_wp2
      go_meet
      case rel => exact ⟨by rw [HM.out], rfl⟩
    · have HM := Lib.hid (show MI = false by rw [HMI.out, decide_eq_false h0]; rfl)
      obtain rfl : VE = .iface 86 (.int .i64 HE) := by rw [HVE.out, errV_ne h0]
      clear h0 HVE
      go_wp2
      go_meet
      case rel => exact ⟨by rw [HM.out], rfl⟩
  case rest =>
  obtain ⟨rfl, rfl⟩ := hcut
  obtain ⟨w7, rfl⟩ : ∃ w7 : World, w7 = wc := ⟨_, rfl⟩
  have HP2' := Lib.hid (show E1 = 5 → MI = true → HV = false from fun h hm => by
    rw [HMI.out, Bool.and_eq_true, decide_eq_true_eq, beq_iff_eq] at hm
    exact HP2.out h hm.1 hm.2)
  have HP4' := Lib.hid (show AE = 5 → MI = true → HV = true from fun h hm => by
    rw [HMI.out, Bool.and_eq_true, decide_eq_true_eq, beq_iff_eq] at hm
    exact HP4.out h hm.1 hm.2)
  clear HMI HP2 HP4
  go_upto_region 9 with (fail)
  go_cut [82] (fun s wx => s = .bool (decide (E1 = 0)) ∧ wx = w7)
  case first =>
    by_cases h0 : E1 = 0
    · obtain rfl : V1 = .nilIface := by rw [HV1.out, errV_zero h0]
      have HD := Lib.hid (decide_eq_true h0)
      clear h0 HV1
      go_wp2
      go_meet
      case rel => exact ⟨by rw [HD.out], rfl⟩
    · obtain rfl : V1 = .iface 86 (.int .i64 E1) := by rw [HV1.out, errV_ne h0]
      have HD := Lib.hid (decide_eq_false h0)
      clear h0 HV1
      go_wp2
      go_meet
      case rel => exact ⟨by rw [HD.out], rfl⟩
  case rest =>
  obtain ⟨rfl, rfl⟩ := hcut
  obtain ⟨w7, rfl⟩ : ∃ w7 : World, w7 = wc := ⟨_, rfl⟩
  go_upto_if 82 with (fail)
  go_cut [17] (fun _ wx => MhAt w wx (.slice A l.length cA) (.slice C c.length cC) (.int .i64 th) (.int .i64 a) (.int .i64 b) (.int .i64 d))
  case first =>
    have b0 := HT7.out.form.cell 0
    have b1' := HT7.out.form.cell 1
    obtain ⟨z0, z1, z2, z3⟩ := BX7.out.cells4
    simp at b0 b1'
    by_cases h0 : E1 = 0
    · have HF := Lib.hid (HFX.out h0).2
      obtain rfl : t1 = u := (HFX.out h0).1
      rw [decide_eq_true h0]
      clear h0
      go_wp2_with fail
      refine (HF.out _ HT7.out.below).mono ?_
      rintro e w8 ⟨rfl, hb8⟩
      have HT8 := Lib.hid (HT7.out.keep hb8)
      have BX8 := BX7.out.keep hb8
      clear z0 z1 z2 z3
      obtain ⟨z0, z1, z2, z3⟩ := BX8.cells4
      go_wp2
      go_meet
      case rel => exact HT8.out
    · obtain rfl : V1 = errV E1 := HV1.out
      rw [decide_eq_false h0]
      clear h0
      go_wp2_with fail
      refine (vennsame_Error E1 5 _ (HET.out.keep HT7.out.below)).mono ?_
      rintro e w8 ⟨rfl, hb8⟩
      have HT8 := Lib.hid (HT7.out.keep hb8)
      clear b0 b1' z0 z1 z2 z3
      have b0 := HT8.out.form.cell 0
      have b1' := HT8.out.form.cell 1
      simp at b0 b1'
      by_cases h5 : E1 = 5
      · rw [show (E1 == 5) = true from beq_iff_eq.2 h5]
        have HQ := Lib.hid (HP2'.out h5)
        clear h5
        go_wp2_with fail
        refine (HFC.out _ HT8.out.below).mono ?_
        rintro e w9 ⟨rfl, hb9⟩
        have HT9 := Lib.hid (HT8.out.keep hb9)
        by_cases hf : FC = 0
        · rw [errV_zero hf]
          cases MI
          · go_wp2
            go_meet
            case rel => exact HT9.out
          · obtain rfl : HV = false := HQ.out rfl
            go_wp2
            go_meet
            case rel => exact HT9.out
        · rw [errV_ne hf]
          go_wp2
          go_meet
          case rel => exact HT9.out
      · rw [show (E1 == 5) = false from beq_eq_false_iff_ne.2 h5]
        go_wp2
        go_meet
        case rel => exact HT8.out
  case rest =>
  obtain ⟨w10, rfl⟩ : ∃ w10 : World, w10 = wc := ⟨_, rfl⟩
  have HT10 := Lib.hid hcut
  clear hcut HT7 BX7 HFX HP2' HV1 HVE HMO HFW HFC
  have b0 := HT10.out.form.cell 0
  have b1' := HT10.out.form.cell 1
  simp at b0 b1'
  go_wp2_with fail
  refine (HSU.out _ HT10.out.below).mono ?_
  rintro e w11 ⟨rfl, hb11⟩
  have HT11 := Lib.hid (HT10.out.keep hb11)
  clear b0 b1' HT10
  by_cases hs : SE = 0
  · obtain ⟨hae, HSV⟩ : (AE = 0 ∨ AE = 5) ∧ RowKit.Hid (SV = decide (AE = 5)) := ⟨(HP3.out hs).2.1, Lib.hid (HP3.out hs).2.2⟩
    rw [errV_zero hs]
    clear hs HP3
    have b0 := HT11.out.form.cell 0
    have b1' := HT11.out.form.cell 1
    simp at b0 b1'
    go_wp2_with fail
    refine (HAG.out _ HT11.out.below).mono ?_
    rintro e w12 ⟨he, hb12⟩
    simp only [worldM] at he
    subst he
    have HT12 := Lib.hid ((HT11.out.keep hb12).alloc (.cells #[.int .i64 t2, .int .i64 a2, .int .i64 b2, .int .i64 d2] 28))
    have BX12 := Lib.hid (Blk.new w12 28 #[.int .i64 t2, .int .i64 a2, .int .i64 b2, .int .i64 d2])
    clear b0 b1' HT11 hb12
    rcases hae with h0 | h5
    · have HF := Lib.hid (HFY.out h0).2
      obtain rfl : t2 = u := (HFY.out h0).1
      obtain rfl : SV = false := by rw [HSV.out, h0]; rfl
      rw [errV_zero h0]
      clear h0 HSV
      go_wp2_with fail
      refine (error_nilH _ (HET.out.keep HT12.out.below)).mono ?_
      rintro e w13 ⟨rfl, hb13⟩
      have HT13 := Lib.hid (HT12.out.keep hb13)
      have BX13 := Lib.hid (BX12.out.keep hb13)
      have b0 := HT13.out.form.cell 0
      have b1' := HT13.out.form.cell 1
      obtain ⟨z0, z1, z2, z3⟩ := BX13.out.cells4
      simp at b0 b1'
      go_wp2_with fail
      refine (HF.out _ HT13.out.below).mono ?_
      rintro e w14 ⟨rfl, hb14⟩
      have HT14 := Lib.hid (HT13.out.keep hb14)
      have BX14 := BX13.out.keep hb14
      clear z0 z1 z2 z3
      obtain ⟨z0, z1, z2, z3⟩ := BX14.cells4
      go_wp2
      go_ret
      exact ⟨by simp, HT14.out.below⟩
    · obtain rfl : SV = true := by rw [HSV.out, h5]; rfl
      have HQ := Lib.hid (HP4'.out h5)
      rw [errV_ne (show AE ≠ 0 by omega)]
      subst h5
      clear HSV
      go_wp2_with fail
      refine (error_fiveH _ (HET.out.keep HT12.out.below)).mono ?_
      rintro e w13 ⟨rfl, hb13⟩
      have HT13 := Lib.hid (HT12.out.keep hb13)
      cases MI
      · go_wp2
        go_ret
        exact ⟨rfl, HT13.out.below⟩
      · obtain rfl : HV = true := HQ.out rfl
        go_wp2
        go_ret
        exact ⟨rfl, HT13.out.below⟩
  · rw [errV_ne hs]
    go_wp2
    go_ret
    exact ⟨rfl, HT11.out.below⟩
end Go.Proofs.YtpkleioabinkkaaGreatDoor
