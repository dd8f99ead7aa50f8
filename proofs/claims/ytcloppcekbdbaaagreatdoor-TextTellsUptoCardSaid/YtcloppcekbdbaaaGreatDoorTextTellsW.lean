/-
  THE WALK of vennlaw2.TextTells.
-/
import Derived.Test.YtcloppcekbdbaaaGreatDoorRefReadForm
import Derived.Test.YtcloppcekbdbaaaGreatDoorRefFormText
import Derived.Test.YtcloppcekbdbaaaGreatDoorSameForm
import Derived.Test.YtcloppcekbdbaaaGreatDoorLawF
import Derived.Deep.DeepCutAuto
namespace Go.Proofs.YtcloppcekbdbaaaGreatDoor
open Go.RowKit

set_option maxHeartbeats 8000000 in
set_option maxRecDepth 100000 in
theorem textTells_walk (sa sc : Value) (l : List Venn.Atom) (c : List Int) (str : ByteArray) (w : World) (ha : IsAtoms w sa l) (hc : IsInts w sc c) (hsz : str.size < 4294967281)
    (hk : KindsOk w) (het : EtOk w) (htab : TabOk w) (hwo : WordsOk w) (he : ErrsOk w) (hm : MaxOk w) :
    Calls Tryz.prog 6 #[.agg #[sa, sc], .string str] w (Keeps (.bool true) w) := by
  have HA := Lib.hid ha
  have HC := Lib.hid hc
  have HSZ := Lib.hid hsz
  obtain ⟨A, cA, rfl⟩ := ha.slice
  obtain ⟨C, cC, rfl⟩ := hc.slice
  have HRF := Lib.hid (fun W (hW : Below w.heap.size w W) => ref_Form _ _ l c W (HA.out.keep hW) (HC.out.keep hW))
  have HRT := Lib.hid (fun (h : Venn.formChk ⟨l, c⟩ = 0) W (hW : Below w.heap.size w W) => ref_FormText _ _ l c W (HA.out.keep hW) (HC.out.keep hW) h)
  have HPR := Lib.hid (fun W (hW : Below w.heap.size w W) => text_Print _ _ l c W (HA.out.keep hW) (HC.out.keep hW) (hk.keep hW) (htab.keep hW) (hwo.keep hW))
  have HVE := Lib.hid (fun e f W (hW : Below w.heap.size w W) => vennsame_Error e f W (het.keep hW))
  have HR1 := Lib.hid (fun W => ref_ReadForm str W HSZ.out)
  have HR2 := Lib.hid (fun W (hW : Below w.heap.size w W) => text_Parse str W HSZ.out (hwo.keep hW) (hk.keep hW) (htab.keep hW) (he.keep hW) (hm.keep hW))
  have HP := Lib.hid (show printF ⟨l, c⟩ = if Venn.formChk ⟨l, c⟩ = 0 then .tuple #[.string ⟨(printB ⟨l, c⟩).toArray⟩, .nilIface] else .tuple #[.string ⟨#[]⟩, errV (Venn.formChk ⟨l, c⟩)] from rfl)
  clear ha hc hk het htab hwo he hm hsz
  have BA := Blk.new w 38 #[.slice A l.length cA, .slice C c.length cC]
  have hb0 : Below w.heap.size w (w.alloc (.cells #[.slice A l.length cA, .slice C c.length cC] 38)) := by (repeat' (first | (with_reducible exact Below.refl _ _) | (with_reducible assumption) | (with_reducible refine Below.next ?_ (by with_reducible assumption)) | (with_reducible refine Below.drew ?_) | (with_reducible refine Below.laid ?_ _) | (with_reducible refine Below.setCell ?_ ?_ _) | (with_reducible refine size_of ?_) | (with_reducible refine Nat.le_succ_of_le ?_) | go_size))
  generalize formErr str = E at HR1 HR2
  generalize formV str = V at HR1 HR2
  generalize printF ⟨l, c⟩ = PV at HPR HP
  generalize Venn.formChk ⟨l, c⟩ = AC at HRF HRT HP
  generalize (⟨(printB ⟨l, c⟩).toArray⟩ : ByteArray) = TX at HRT HP
  obtain ⟨xl, xc⟩ := V
  go_enter Tryz.func6, Tryz.ntmps6
  go_upto_region 1 with (fail)
  revert BA hb0
  generalize w.alloc (.cells #[.slice A l.length cA, .slice C c.length cC] 38) = w1
  intro BA hw1
  obtain ⟨⟨BA0, BA1⟩, _⟩ := BA.cells2
  have BAl := BA.lt
  go_wp2_with fail
  refine (HRF.out _ hw1).mono ?_
  rintro e w2 ⟨rfl, hb2⟩
  have hq2 : Below w1.heap.size w1 w2 := by (repeat' (first | (with_reducible exact Below.refl _ _) | (with_reducible assumption) | (with_reducible refine Below.next ?_ (by with_reducible assumption)) | (with_reducible refine Below.drew ?_) | (with_reducible refine Below.laid ?_ _) | (with_reducible refine Below.setCell ?_ ?_ _) | (with_reducible refine size_of ?_) | (with_reducible refine Nat.le_succ_of_le ?_) | go_size))
  have hw2 : Below w.heap.size w w2 := Below.next hw1 hq2
  replace BA := BA.keep hq2
  try clear BA0 BA1 BAl
  obtain ⟨⟨BA0, BA1⟩, _⟩ := BA.cells2
  have BAl := BA.lt
  have htx : (TX == TX) = true := by rw [bytes_beq]; simp
  have htl : (TX.toList == TX.toList) = true := by simp
  clear hb2 hq2 hw1
  by_cases hA : AC = 0
  rotate_left
  focus
    have hA1 : (AC == 0) = false := by simpa using hA
    have HPV := Lib.hid (show PV = .tuple #[.string ⟨#[]⟩, errV AC] by rw [HP.out, if_neg hA])
    rw [HPV.out] at HPR
    have hst : ((⟨#[]⟩ : ByteArray) == ⟨#[]⟩) = true := by decide
    clear HRT HP HPV hA
    go_wp2_with fail
    refine (HPR.out _ hw2).mono ?_
    rintro e w3 ⟨rfl, hb3⟩
    have hq3 : Below w2.heap.size w2 w3 := by (repeat' (first | (with_reducible exact Below.refl _ _) | (with_reducible assumption) | (with_reducible refine Below.next ?_ (by with_reducible assumption)) | (with_reducible refine Below.drew ?_) | (with_reducible refine Below.laid ?_ _) | (with_reducible refine Below.setCell ?_ ?_ _) | (with_reducible refine size_of ?_) | (with_reducible refine Nat.le_succ_of_le ?_) | go_size))
    have hw3 : Below w.heap.size w w3 := Below.next hw2 hq3
    replace BA := BA.keep hq3
    try clear BA0 BA1 BAl
    obtain ⟨⟨BA0, BA1⟩, _⟩ := BA.cells2
    have BAl := BA.lt
    go_wp2_with fail
    refine (HVE.out AC AC _ hw3).mono ?_
    rintro e w4 ⟨rfl, hb4⟩
    rw [beq_self_eq_true]
    have hq4 : Below w3.heap.size w3 w4 := by (repeat' (first | (with_reducible exact Below.refl _ _) | (with_reducible assumption) | (with_reducible refine Below.next ?_ (by with_reducible assumption)) | (with_reducible refine Below.drew ?_) | (with_reducible refine Below.laid ?_ _) | (with_reducible refine Below.setCell ?_ ?_ _) | (with_reducible refine size_of ?_) | (with_reducible refine Nat.le_succ_of_le ?_) | go_size))
    have hw4 : Below w.heap.size w w4 := Below.next hw3 hq4
    replace BA := BA.keep hq4
    try clear BA0 BA1 BAl
    obtain ⟨⟨BA0, BA1⟩, _⟩ := BA.cells2
    have BAl := BA.lt
    have hw19 := hw4
    go_upto_region 7 with (fail)
    clear BA BA0 BA1 BAl hw2 hw3 hw4 hb3 hb4 hq3 hq4 hA1 hst
    revert hw19
    generalize w4 = w19
    intro hw19
  rotate_left
  focus
    have HRT0 := Lib.hid (HRT.out hA)
    have HPV := Lib.hid (show PV = .tuple #[.string TX, .nilIface] by rw [HP.out, if_pos hA])
    have HV0 := Lib.hid (fun W hW => HVE.out 0 0 W hW)
    rw [errV_zero rfl] at HV0
    rw [HPV.out] at HPR
    clear HRT HP HPV
    subst hA
    go_wp2_with fail
    refine (HRT0.out _ hw2).mono ?_
    rintro e w3 ⟨rfl, hb3⟩
    have hq3 : Below w2.heap.size w2 w3 := by (repeat' (first | (with_reducible exact Below.refl _ _) | (with_reducible assumption) | (with_reducible refine Below.next ?_ (by with_reducible assumption)) | (with_reducible refine Below.drew ?_) | (with_reducible refine Below.laid ?_ _) | (with_reducible refine Below.setCell ?_ ?_ _) | (with_reducible refine size_of ?_) | (with_reducible refine Nat.le_succ_of_le ?_) | go_size))
    have hw3 : Below w.heap.size w w3 := Below.next hw2 hq3
    replace BA := BA.keep hq3
    try clear BA0 BA1 BAl
    obtain ⟨⟨BA0, BA1⟩, _⟩ := BA.cells2
    have BAl := BA.lt
    go_wp2_with fail
    refine (HPR.out _ hw3).mono ?_
    rintro e w4 ⟨rfl, hb4⟩
    have hq4 : Below w3.heap.size w3 w4 := by (repeat' (first | (with_reducible exact Below.refl _ _) | (with_reducible assumption) | (with_reducible refine Below.next ?_ (by with_reducible assumption)) | (with_reducible refine Below.drew ?_) | (with_reducible refine Below.laid ?_ _) | (with_reducible refine Below.setCell ?_ ?_ _) | (with_reducible refine size_of ?_) | (with_reducible refine Nat.le_succ_of_le ?_) | go_size))
    have hw4 : Below w.heap.size w w4 := Below.next hw3 hq4
    replace BA := BA.keep hq4
    try clear BA0 BA1 BAl
    obtain ⟨⟨BA0, BA1⟩, _⟩ := BA.cells2
    have BAl := BA.lt
    go_wp2_with fail
    refine (HV0.out _ hw4).mono ?_
    rintro e w5 ⟨rfl, hb5⟩
    rw [beq_self_eq_true]
    have hq5 : Below w4.heap.size w4 w5 := by (repeat' (first | (with_reducible exact Below.refl _ _) | (with_reducible assumption) | (with_reducible refine Below.next ?_ (by with_reducible assumption)) | (with_reducible refine Below.drew ?_) | (with_reducible refine Below.laid ?_ _) | (with_reducible refine Below.setCell ?_ ?_ _) | (with_reducible refine size_of ?_) | (with_reducible refine Nat.le_succ_of_le ?_) | go_size))
    have hw5 : Below w.heap.size w w5 := Below.next hw4 hq5
    replace BA := BA.keep hq5
    try clear BA0 BA1 BAl
    obtain ⟨⟨BA0, BA1⟩, _⟩ := BA.cells2
    have BAl := BA.lt
    have hw19 := hw5
    go_upto_region 7 with (fail)
    clear BA BA0 BA1 BAl hw2 hw3 hw4 hw5 hb3 hb4 hb5 hq3 hq4 hq5
    revert hw19
    generalize w5 = w19
    intro hw19
  all_goals
    have HW19 := Lib.hid hw19
    clear hw19
    go_wp2_with fail
    refine (HR1.out _).mono ?_
    rintro e w20 ⟨XA, xn, xk, XC, yn, yk, rfl, hb20, hX, hY⟩
    dsimp only at hX hY ⊢
    have hal : Below w20.heap.size w20 (w20.alloc (.cells #[.slice XA xn xk, .slice XC yn yk] 38)) := (Below.refl _ _).alloc (Nat.le_refl _) _
    have BX := Blk.new w20 38 #[.slice XA xn xk, .slice XC yn yk]
    have HB21 := Lib.hid (Below.next hb20 hal)
    have HX := Lib.hid (hX.keep hal)
    have HY := Lib.hid (hY.keep hal)
    clear hX hY
    go_upto_region 8 with (fail)
    clear hb20
    revert hal BX HB21 HX HY
    generalize w20.alloc (.cells #[.slice XA xn xk, .slice XC yn yk] 38) = w21
    intro hal BX HB21 HX HY
    go_wp2_with fail
    refine (HR2.out _ (Below.next HW19.out HB21.out)).mono ?_
    rintro e w22 ⟨ZA, zn, zk, ZC, un, uk, rfl, hb22, hZ, hU⟩
    dsimp only at hZ hU ⊢
    have hal2 : Below w22.heap.size w22 (w22.alloc (.cells #[.slice ZA zn zk, .slice ZC un uk] 38)) := (Below.refl _ _).alloc (Nat.le_refl _) _
    have BZ := Blk.new w22 38 #[.slice ZA zn zk, .slice ZC un uk]
    have BX2 := (BX.keep hb22).keep hal2
    have HB23 := Lib.hid (Below.next HB21.out (Below.next hb22 hal2))
    have HZ := Lib.hid (hZ.keep hal2)
    have HU := Lib.hid (hU.keep hal2)
    have HX2 := Lib.hid ((HX.out.keep hb22).keep hal2)
    have HY2 := Lib.hid ((HY.out.keep hb22).keep hal2)
    clear hZ hU BX hal HX HY
    go_upto_region 9 with (fail)
    clear hb22
    revert hal2 BZ BX2 HB23 HZ HU HX2 HY2
    generalize w22.alloc (.cells #[.slice ZA zn zk, .slice ZC un uk] 38) = w23
    intro hal2 BZ BX2 HB23 HZ HU HX2 HY2
    clear hal2
    go_wp2_with fail
    refine (HVE.out E E _ (Below.next HW19.out HB23.out)).mono ?_
    rintro e w24 ⟨rfl, hb24⟩
    rw [beq_self_eq_true]
    have BZ4 := BZ.keep hb24
    have BX4 := BX2.keep hb24
    obtain ⟨⟨c0, c1⟩, _⟩ := BZ4.cells2
    obtain ⟨⟨d0, d1⟩, _⟩ := BX4.cells2
    go_wp2_with fail
    refine (same_Form _ _ _ _ xl xc _ (HZ.out.keep hb24) (HU.out.keep hb24) (HX2.out.keep hb24) (HY2.out.keep hb24)).mono ?_
    rintro e w25 ⟨rfl, hb25⟩
    go_wp2
    go_ret
    exact ⟨rfl, Below.next HW19.out (Below.next HB23.out (Below.next hb24 hb25))⟩
end Go.Proofs.YtcloppcekbdbaaaGreatDoor
