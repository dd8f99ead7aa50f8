/-
  THE WALK of vennlaw1.ModelTells.
-/
import Derived.Test.YtpkleioabinkkaaGreatDoorRefModel
import Derived.Test.YtpkleioabinkkaaGreatDoorModelS
import Derived.Test.YtpkleioabinkkaaGreatDoorRefNegate
import Derived.Test.YtpkleioabinkkaaGreatDoorEql
import Derived.Test.YtpkleioabinkkaaGreatDoorLawF
import Derived.Deep.DeepCutAuto
namespace Venn
theorem sure_fin (f : Form) (u : Int) : sureV f u = (decide (againstErr f u = 5) && decide (formChk f = 0)) ∧ sureErr f u = if sureV f u = true then 0 else againstErr f u := by
  unfold sureErr sureV
  by_cases h : formChk f = 0
  · rw [if_pos h, if_pos h, decide_eq_true h, Bool.and_true]
    refine ⟨rfl, ?_⟩
    by_cases h5 : againstErr f u = 5
    · rw [if_pos (.inr h5), decide_eq_true h5]; rfl
    · rw [decide_eq_false h5]
      by_cases h0 : againstErr f u = 0
      · rw [if_pos (.inl h0)]; simp [h0]
      · rw [if_neg (by omega)]; rfl
  · rw [if_neg h, if_neg h, decide_eq_false h, Bool.and_false]
    refine ⟨rfl, ?_⟩
    have e : negChk f = formChk f := by unfold negChk; rw [if_neg h]
    unfold againstErr
    rw [e, if_neg h]
    rfl
theorem against_no {f : Form} {u : Int} (h : ¬ negChk f = 0) : againstErr f u = negChk f ∧ againstV f u = ⟨0, 0, 0, 0⟩ := by
  unfold againstErr againstV
  rw [if_neg h, if_neg h]
  exact ⟨rfl, rfl⟩
theorem against_yes {f : Form} {u : Int} (h : negChk f = 0) : againstErr f u = modelErr (negF f) u ∧ againstV f u = modelV (negF f) u := by
  unfold againstErr againstV
  rw [if_pos h, if_pos h]
  exact ⟨rfl, rfl⟩
end Venn
namespace Go.Proofs.YtpkleioabinkkaaGreatDoor
open Go.RowKit

theorem blk_far4 {w : World} {g : Nat} {t : TypeId} {cs : Array Value} (h : Blk w g t cs) {p : Nat} (hp : g ≠ p) (x0 x1 x2 x3 : Value) :
    Blk ((((w.setCell ⟨p, 0, none⟩ x0).setCell ⟨p, 1, none⟩ x1).setCell ⟨p, 2, none⟩ x2).setCell ⟨p, 3, none⟩ x3) g t cs :=
  (((h.far (p := ⟨p, 0, none⟩) hp _).far (p := ⟨p, 1, none⟩) hp _).far (p := ⟨p, 2, none⟩) hp _).far (p := ⟨p, 3, none⟩) hp _
set_option maxHeartbeats 8000000 in
set_option maxRecDepth 100000 in
theorem modelTells_walk (sa sc : Value) (l : List Venn.Atom) (c : List Int) (u : Int) (w : World) (ha : IsAtoms w sa l) (hc : IsInts w sc c) (hk : KindsOk w) (het : EtOk w) :
    Calls Tryz.prog 3 #[.agg #[sa, sc], .int .i64 u] w (Keeps (.bool true) w) := by
  have HA := Lib.hid ha
  have HC := Lib.hid hc
  have HK := Lib.hid hk
  have HET := Lib.hid het
  obtain ⟨A, cA, rfl, _⟩ := ha
  obtain ⟨C, cC, rfl, _⟩ := hc
  have HRM := Lib.hid (fun W (hW : Below w.heap.size w W) => ref_Model _ _ l c u W (HA.out.keep hW) (HC.out.keep hW))
  have HMO := Lib.hid (fun W (hW : Below w.heap.size w W) => model_Of _ _ l c u W (HA.out.keep hW) (HC.out.keep hW) (HK.out.keep hW))
  have HRN := Lib.hid (fun W (hW : Below w.heap.size w W) => ref_Negate _ _ l c W (HA.out.keep hW) (HC.out.keep hW))
  have HRF := Lib.hid (fun W (hW : Below w.heap.size w W) => ref_Form _ _ l c W (HA.out.keep hW) (HC.out.keep hW))
  have HAG := Lib.hid (fun W (hW : Below w.heap.size w W) => model_Against _ _ l c u W (HA.out.keep hW) (HC.out.keep hW) (HK.out.keep hW))
  have HSU := Lib.hid (fun W (hW : Below w.heap.size w W) => model_Sure _ _ l c u W (HA.out.keep hW) (HC.out.keep hW) (HK.out.keep hW) (HET.out.keep hW))
  have HB0 := Lib.hid (Blk.new w 25 #[.slice A l.length cA, .slice C c.length cC])
  have hb0 : Below w.heap.size w (w.alloc (.cells #[.slice A l.length cA, .slice C c.length cC] 25)) := by (repeat' (first | (with_reducible exact Below.refl _ _) | (with_reducible assumption) | (with_reducible refine Below.next ?_ (by with_reducible assumption)) | (with_reducible refine Below.drew ?_) | (with_reducible refine Below.laid ?_ _) | (with_reducible refine Below.setCell ?_ ?_ _) | (with_reducible refine size_of ?_) | (with_reducible refine Nat.le_succ_of_le ?_) | go_size))
  have HAY := Lib.hid (Venn.against_yes (f := ⟨l, c⟩) (u := u))
  have HAN := Lib.hid (Venn.against_no (f := ⟨l, c⟩) (u := u))
  have HSF := Lib.hid (Venn.sure_fin ⟨l, c⟩ u)
  have HNV := Lib.hid (show Venn.negChk ⟨l, c⟩ = 0 → negV ⟨l, c⟩ = Venn.negF ⟨l, c⟩ from fun h => by rw [negV, if_pos h])
  generalize Venn.modelErr ⟨l, c⟩ u = E1 at HRM HMO
  generalize Venn.modelV ⟨l, c⟩ u = X1 at HRM HMO
  generalize Venn.againstErr ⟨l, c⟩ u = AE at HAG HAY HAN HSF
  generalize Venn.againstV ⟨l, c⟩ u = AW at HAG HAY HAN
  generalize Venn.sureErr ⟨l, c⟩ u = SE at HSU HSF
  generalize Venn.sureV ⟨l, c⟩ u = SV at HSU HSF
  generalize Venn.formChk ⟨l, c⟩ = FC at HRF HSF
  generalize Venn.negChk ⟨l, c⟩ = NC at HRN HAY HAN HNV
  generalize Venn.negF ⟨l, c⟩ = NF at HAY HNV
  obtain ⟨t1, a1, b1, d1⟩ := X1
  obtain ⟨t2, a2, b2, d2⟩ := AW
  clear hk het
  have b0 := (HB0.out).cell 0
  have b1' := (HB0.out).cell 1
  simp at b0 b1'
  go_enter Tryz.func3, Tryz.ntmps3
  go_wp2_with fail
  refine (HRM.out _ hb0).mono ?_
  rintro e w1 ⟨he, hb1⟩
  simp only [worldM] at he
  subst he
  have hq1 := Below.next hb0 hb1
  have BF1 := Lib.hid ((HB0.out).keep hb1)
  have BW1 := Lib.hid (Blk.new w1 28 #[.int .i64 t1, .int .i64 a1, .int .i64 b1, .int .i64 d1])
  have hsz1 := hb1.size
  clear b0 b1' hb1
  have b0 := (BF1.out.alloc (.cells #[.int .i64 t1, .int .i64 a1, .int .i64 b1, .int .i64 d1] 28)).cell 0
  have b1' := (BF1.out.alloc (.cells #[.int .i64 t1, .int .i64 a1, .int .i64 b1, .int .i64 d1] 28)).cell 1
  simp at b0 b1'
  have hq1a : Below w.heap.size w (w1.alloc (.cells #[.int .i64 t1, .int .i64 a1, .int .i64 b1, .int .i64 d1] 28)) := by (repeat' (first | (with_reducible exact Below.refl _ _) | (with_reducible assumption) | (with_reducible refine Below.next ?_ (by with_reducible assumption)) | (with_reducible refine Below.drew ?_) | (with_reducible refine Below.laid ?_ _) | (with_reducible refine Below.setCell ?_ ?_ _) | (with_reducible refine size_of ?_) | (with_reducible refine Nat.le_succ_of_le ?_) | go_size))
  go_wp2_with fail
  refine (HMO.out _ hq1a).mono ?_
  rintro e w2 ⟨he, hb2⟩
  simp only [worldM] at he
  subst he
  have hq2 := Below.next hq1a hb2
  have hgW : w.heap.size ≤ w1.heap.size := hq1.size
  obtain ⟨GW, hGW⟩ : ∃ G, G = w1.heap.size := ⟨_, rfl⟩
  have HGN := Lib.hid (show w.heap.size ≠ w1.heap.size by have := hsz1; simp at this; omega)
  rw [← hGW] at BW1 hgW HGN ⊢
  have BF2 := Lib.hid ((BF1.out.alloc _).keep hb2)
  have BW2 := Lib.hid (BW1.out.keep hb2)
  clear b0 b1' hb2 BF1 BW1 hGW hq1 hq1a hsz1
  go_wp2_with fail
  refine (vennsame_Error _ _ _ (HET.out.keep (by (repeat' (first | (with_reducible exact Below.refl _ _) | (with_reducible assumption) | (with_reducible refine Below.next ?_ (by with_reducible assumption)) | (with_reducible refine Below.drew ?_) | (with_reducible refine Below.laid ?_ _) | (with_reducible refine Below.setCell ?_ ?_ _) | (with_reducible refine size_of ?_) | (with_reducible refine Nat.le_succ_of_le ?_) | go_size))))).mono ?_
  rintro e w3 ⟨rfl, hb3⟩
  rw [beq_self_eq_true]
  have hq3 : Below w.heap.size w w3 := Below.next hq2 (Below.next (show Below w2.heap.size w2 (w2.alloc (.cells #[.int .i64 t1, .int .i64 a1, .int .i64 b1, .int .i64 d1] 28)) by (repeat' (first | (with_reducible exact Below.refl _ _) | (with_reducible assumption) | (with_reducible refine Below.next ?_ (by with_reducible assumption)) | (with_reducible refine Below.drew ?_) | (with_reducible refine Below.laid ?_ _) | (with_reducible refine Below.setCell ?_ ?_ _) | (with_reducible refine size_of ?_) | (with_reducible refine Nat.le_succ_of_le ?_) | go_size))) hb3)
  have BX3 := (Blk.new w2 28 #[.int .i64 t1, .int .i64 a1, .int .i64 b1, .int .i64 d1]).keep hb3
  have BW3 := Lib.hid ((BW2.out.alloc _).keep hb3)
  have BF3 := Lib.hid ((BF2.out.alloc _).keep hb3)
  obtain ⟨x0, x1, x2, x3⟩ := BX3.cells4
  obtain ⟨y0, y1, y2, y3⟩ := BW3.out.cells4
  have hq := eql_three 9997 a1 b1 d1 w3
  go_upto_region 4 with (fail)
  clear x0 x1 x2 x3 y0 y1 y2 y3 hq BX3 BF2 BW2 hb3 hq2
  have b0 := (BF3.out).cell 0
  have b1' := (BF3.out).cell 1
  simp at b0 b1'
  go_wp2_with fail
  refine (HRN.out _ hq3).mono ?_
  rintro e w4 ⟨NA, kNA, NO, kNO, rfl, hb4, hna, hno⟩
  have hq4 := Below.next hq3 hb4
  have BF4 := Lib.hid (BF3.out.keep hb4)
  have BW4 := Lib.hid (BW3.out.keep hb4)
  have HNA := Lib.hid hna
  have HNO := Lib.hid hno
  clear b0 b1' hb4 hna hno BF3 BW3 hq3
  go_upto_if 42 with (fail)
  have BG5 := Lib.hid (Blk.new w4 25 #[.slice NA (negV ⟨l, c⟩).atoms.length kNA, .slice NO (negV ⟨l, c⟩).code.length kNO])
  have BF5 := Lib.hid (BF4.out.alloc (.cells #[.slice NA (negV ⟨l, c⟩).atoms.length kNA, .slice NO (negV ⟨l, c⟩).code.length kNO] 25))
  have BW5 := Lib.hid (BW4.out.alloc (.cells #[.slice NA (negV ⟨l, c⟩).atoms.length kNA, .slice NO (negV ⟨l, c⟩).code.length kNO] 25))
  have hb5 : Below w4.heap.size w4 (w4.alloc (.cells #[.slice NA (negV ⟨l, c⟩).atoms.length kNA, .slice NO (negV ⟨l, c⟩).code.length kNO] 25)) := by (repeat' (first | (with_reducible exact Below.refl _ _) | (with_reducible assumption) | (with_reducible refine Below.next ?_ (by with_reducible assumption)) | (with_reducible refine Below.drew ?_) | (with_reducible refine Below.laid ?_ _) | (with_reducible refine Below.setCell ?_ ?_ _) | (with_reducible refine size_of ?_) | (with_reducible refine Nat.le_succ_of_le ?_) | go_size))
  go_cut [6] (fun s wx => s = .int .i64 AE ∧ Below w.heap.size w wx ∧ Blk wx w.heap.size 25 #[.slice A l.length cA, .slice C c.length cC] ∧ Blk wx GW 28 #[.int .i64 t2, .int .i64 a2, .int .i64 b2, .int .i64 d2])
  case first =>
    as_aux_lemma =>
      have hq5 := Below.next hq4 hb5
      by_cases hn : NC = 0
      · have HE := Lib.hid (HAY.out hn)
        rw [HNV.out hn] at HNA HNO BG5 BF5 BW5 hb5 hq5 ⊢
        have HNM := Lib.hid (fun W (hW : Below w4.heap.size w4 W) => ref_Model _ _ NF.atoms NF.code u W (HNA.out.keep hW) (HNO.out.keep hW))
        rw [show (⟨NF.atoms, NF.code⟩ : Venn.Form) = NF from rfl] at HNM
        generalize Venn.modelErr NF u = E2 at HNM HE
        generalize Venn.modelV NF u = X2 at HNM HE
        obtain ⟨rfl, hX⟩ := HE.out
        subst hX
        subst hn
        clear HAY HAN HE
        have g0 := (BG5.out).cell 0
        have g1 := (BG5.out).cell 1
        simp at g0 g1
        go_wp2_with fail
        refine (HNM.out _ hb5).mono ?_
        rintro e w6 ⟨he, hb6⟩
        simp only [worldM] at he
        subst he
        have hq6 := Below.next hq5 hb6
        have BF6 := BF5.out.keep hb6
        have BW6 := BW5.out.keep hb6
        obtain ⟨r0, r1, r2, r3⟩ := BW6.cells4
        have s0 := BW6.frozen 0
        have s1 := BW6.frozen 1
        have s2 := BW6.frozen 2
        have s3 := BW6.frozen 3
        have GL := below_set4m hq6 hgW (.int .i64 t2) (.int .i64 a2) (.int .i64 b2) (.int .i64 d2)
        have GS := BW6.set4m (.int .i64 t2) (.int .i64 a2) (.int .i64 b2) (.int .i64 d2)
        have GF := blk_far4 BF6 (show w.heap.size ≠ GW from HGN.out) (.int .i64 t2) (.int .i64 a2) (.int .i64 b2) (.int .i64 d2)
        clear g0 g1
        go_wp2
        go_meet
        case rel => exact ⟨rfl, GL, GF, GS⟩
      · have HE := Lib.hid (HAN.out hn)
        have hn1 : (NC == 0) = false := beq_eq_false_iff_ne.2 hn
        obtain ⟨rfl, hX⟩ := HE.out
        injection hX with h1 h2 h3 h4
        subst h1 h2 h3 h4
        clear HAY HAN HE HNV
        obtain ⟨r0, r1, r2, r3⟩ := BW5.out.cells4
        have s0 := BW5.out.frozen 0
        have s1 := BW5.out.frozen 1
        have s2 := BW5.out.frozen 2
        have s3 := BW5.out.frozen 3
        have GL := below_set4m hq5 hgW (.int .i64 0) (.int .i64 0) (.int .i64 0) (.int .i64 0)
        have GS := BW5.out.set4m (.int .i64 0) (.int .i64 0) (.int .i64 0) (.int .i64 0)
        have GF := blk_far4 BF5.out (show w.heap.size ≠ GW from HGN.out) (.int .i64 0) (.int .i64 0) (.int .i64 0) (.int .i64 0)
        go_wp2
        go_meet
        case rel => exact ⟨rfl, GL, GF, GS⟩
  case rest =>
  obtain ⟨rfl, hq6, bf6, bw6⟩ := hcut
  obtain ⟨w6, rfl⟩ : ∃ w6 : World, w6 = wc := ⟨_, rfl⟩
  have BF6 := Lib.hid bf6
  have BW6 := Lib.hid bw6
  clear bf6 bw6 BF5 BW5 BG5 BF4 BW4 HNA HNO HAY HAN HNV hb5
  have b0 := (BF6.out).cell 0
  have b1' := (BF6.out).cell 1
  simp at b0 b1'
  go_wp2_with fail
  refine (HAG.out _ hq6).mono ?_
  rintro e w7 ⟨he, hb7⟩
  simp only [worldM] at he
  subst he
  have hq7 := Below.next hq6 hb7
  have BF7 := Lib.hid (BF6.out.keep hb7)
  have BW7 := Lib.hid (BW6.out.keep hb7)
  clear b0 b1' hb7 BF6 BW6
  go_wp2_with fail
  refine (vennsame_Error _ _ _ (HET.out.keep (by (repeat' (first | (with_reducible exact Below.refl _ _) | (with_reducible assumption) | (with_reducible refine Below.next ?_ (by with_reducible assumption)) | (with_reducible refine Below.drew ?_) | (with_reducible refine Below.laid ?_ _) | (with_reducible refine Below.setCell ?_ ?_ _) | (with_reducible refine size_of ?_) | (with_reducible refine Nat.le_succ_of_le ?_) | go_size))))).mono ?_
  rintro e w8 ⟨rfl, hb8⟩
  rw [beq_self_eq_true]
  have hq8 : Below w.heap.size w w8 := Below.next hq7 (Below.next (show Below w7.heap.size w7 (w7.alloc (.cells #[.int .i64 t2, .int .i64 a2, .int .i64 b2, .int .i64 d2] 28)) by (repeat' (first | (with_reducible exact Below.refl _ _) | (with_reducible assumption) | (with_reducible refine Below.next ?_ (by with_reducible assumption)) | (with_reducible refine Below.drew ?_) | (with_reducible refine Below.laid ?_ _) | (with_reducible refine Below.setCell ?_ ?_ _) | (with_reducible refine size_of ?_) | (with_reducible refine Nat.le_succ_of_le ?_) | go_size))) hb8)
  have BX8 := (Blk.new w7 28 #[.int .i64 t2, .int .i64 a2, .int .i64 b2, .int .i64 d2]).keep hb8
  have BW8 := Lib.hid ((BW7.out.alloc _).keep hb8)
  have BF8 := Lib.hid ((BF7.out.alloc _).keep hb8)
  obtain ⟨x0, x1, x2, x3⟩ := BX8.cells4
  obtain ⟨y0, y1, y2, y3⟩ := BW8.out.cells4
  have hq := eql_three 9997 a2 b2 d2 w8
  go_upto_region 10 with (fail)
  clear x0 x1 x2 x3 y0 y1 y2 y3 hq BX8 BF7 BW7 BW8 hb8 hq7
  go_cut [13] (fun s wx => s = .bool SV ∧ Below w8.heap.size w8 wx)
  case first =>
    as_aux_lemma =>
      have b0 := (BF8.out).cell 0
      have b1' := (BF8.out).cell 1
      simp at b0 b1'
      by_cases h5 : AE = 5
      · have HV := Lib.hid (show SV = (FC == 0) by rw [HSF.out.1, decide_eq_true h5]; rfl)
        have h5' : (AE == 5) = true := beq_iff_eq.2 h5
        clear h5
        go_wp2_with fail
        refine (HRF.out _ hq8).mono ?_
        rintro e w9 ⟨rfl, hb9⟩
        go_wp2
        go_meet
        case rel => exact ⟨by rw [HV.out], hb9⟩
      · have HV := Lib.hid (show SV = false by rw [HSF.out.1, decide_eq_false h5]; rfl)
        have h5' : (AE == 5) = false := beq_eq_false_iff_ne.2 h5
        go_wp2
        go_meet
        case rel => exact ⟨by rw [HV.out], Below.refl _ _⟩
  case rest =>
  obtain ⟨rfl, hb9⟩ := hcut
  obtain ⟨w9, rfl⟩ : ∃ w9 : World, w9 = wc := ⟨_, rfl⟩
  have hq9 := Below.next hq8 hb9
  have BF9 := Lib.hid (BF8.out.keep hb9)
  have HSE := Lib.hid HSF.out.2
  clear hb9 BF8 HSF
  have b0 := (BF9.out).cell 0
  have b1' := (BF9.out).cell 1
  simp at b0 b1'
  cases SV
  all_goals
    have hSE := HSE.out
    simp only [Bool.false_eq_true, if_false, if_true, eq_self] at hSE
    rw [hSE] at HSU
    clear hSE
    go_wp2_with fail
    refine (HSU.out _ hq9).mono ?_
    rintro e w10 ⟨rfl, hb10⟩
    have hq10 := Below.next hq9 hb10
    clear b0 b1'
    go_wp2_with fail
    refine (vennsame_Error _ _ _ (HET.out.keep hq10)).mono ?_
    rintro e w11 ⟨rfl, hb11⟩
    rw [beq_self_eq_true]
    have hq11 := Below.next hq10 hb11
    go_wp2
    go_ret
    exact ⟨rfl, hq11⟩
end Go.Proofs.YtpkleioabinkkaaGreatDoor
