/-
  THE WALK of vennlaw1.AtomTells.
-/
import Derived.Test.YtcloppcekbdbaaaGreatDoorRefRead
import Derived.Test.YtcloppcekbdbaaaGreatDoorRefAtomText
import Derived.Test.YtcloppcekbdbaaaGreatDoorSameForm
import Derived.Test.YtcloppcekbdbaaaGreatDoorLawF
import Derived.Deep.DeepCutAuto
namespace Go.Proofs.YtcloppcekbdbaaaGreatDoor
open Go.RowKit

set_option maxHeartbeats 8000000 in
set_option maxRecDepth 100000 in
theorem atomTells_walk (what n : Int) (sv tv : Value) (s t : List Int) (th a b d : Int) (str : ByteArray) (w : World) (hs : IsInts w sv s) (ht : IsInts w tv t) (hsz : str.size < 4294967281)
    (hk : KindsOk w) (het : EtOk w) (htab : TabOk w) (he : ErrsOk w) (hm : MaxOk w) :
    Calls Tryz.prog 7 #[.agg #[.int .i64 what, sv, tv, .int .i64 n], .agg #[.int .i64 th, .int .i64 a, .int .i64 b, .int .i64 d], .string str] w (Keeps (.bool true) w) := by
  have HS := Lib.hid hs
  have HT := Lib.hid ht
  have HK := Lib.hid hk
  have HET := Lib.hid het
  have HTB := Lib.hid htab
  have HER := Lib.hid he
  have HMX := Lib.hid hm
  have HSZ := Lib.hid hsz
  obtain ⟨SA, kS, rfl⟩ := hs.slice
  obtain ⟨TA, kT, rfl⟩ := ht.slice
  have HRA := Lib.hid (fun W (hW : Below w.heap.size w W) => ref_Atom what n _ _ s t W (HS.out.keep hW) (HT.out.keep hW))
  have HCH := Lib.hid (fun W (hW : Below w.heap.size w W) => atom_Check what n _ _ s t W (HS.out.keep hW) (HT.out.keep hW) (HK.out.keep hW))
  have HPR := Lib.hid (fun W (hW : Below w.heap.size w W) => atom_Print what n _ _ s t W (HS.out.keep hW) (HT.out.keep hW) (HK.out.keep hW) (HTB.out.keep hW))
  have HHO := Lib.hid (fun W (hW : Below w.heap.size w W) => atom_Holds what n _ _ s t th a b d W (HS.out.keep hW) (HT.out.keep hW) (HK.out.keep hW))
  have HRW := Lib.hid (fun W => ref_World th a b d W)
  have HRT := Lib.hid (fun (h : Venn.atomChk ⟨what, s, t, n⟩ = 0) W (hW : Below w.heap.size w W) => ref_AtomText what n _ _ s t W (HS.out.keep hW) (HT.out.keep hW) h)
  have HRH := Lib.hid (fun (h : Venn.atomChk ⟨what, s, t, n⟩ = 0) (h2 : Venn.worldChk ⟨th, a, b, d⟩ = 0) W (hW : Below w.heap.size w W) => ref_Holds what n _ _ s t th a b d W (HS.out.keep hW) (HT.out.keep hW) h h2)
  have HVE := Lib.hid (fun e f W (hW : Below w.heap.size w W) => vennsame_Error e f W (HET.out.keep hW))
  have HC := Lib.hid (show Venn.holdsChk ⟨what, s, t, n⟩ ⟨th, a, b, d⟩ = if Venn.atomChk ⟨what, s, t, n⟩ = 0 then Venn.worldChk ⟨th, a, b, d⟩ else Venn.atomChk ⟨what, s, t, n⟩ from rfl)
  have HV := Lib.hid (show Venn.holdsV ⟨what, s, t, n⟩ ⟨th, a, b, d⟩ = if Venn.holdsChk ⟨what, s, t, n⟩ ⟨th, a, b, d⟩ = 0 then Venn.atomTrue ⟨what, s, t, n⟩ ⟨th, a, b, d⟩ else false from rfl)
  have HP := Lib.hid (show printAV ⟨what, s, t, n⟩ = if Venn.atomChk ⟨what, s, t, n⟩ = 0 then .tuple #[.string ⟨(textA ⟨what, s, t, n⟩).toArray⟩, .nilIface] else .tuple #[.string ⟨#[]⟩, errV (Venn.atomChk ⟨what, s, t, n⟩)] from rfl)
  clear hs ht hk het htab he hm hsz
  have BA := (Blk.new w 32 #[.int .i64 what, .slice SA s.length kS, .slice TA t.length kT, .int .i64 n]).alloc (.cells #[.int .i64 th, .int .i64 a, .int .i64 b, .int .i64 d] 45)
  have BW := Blk.newAt (w := w.alloc (.cells #[.int .i64 what, .slice SA s.length kS, .slice TA t.length kT, .int .i64 n] 32)) (g := w.heap.size + 1) (by simp) 45 #[.int .i64 th, .int .i64 a, .int .i64 b, .int .i64 d]
  have hb0 : Below w.heap.size w ((w.alloc (.cells #[.int .i64 what, .slice SA s.length kS, .slice TA t.length kT, .int .i64 n] 32)).alloc (.cells #[.int .i64 th, .int .i64 a, .int .i64 b, .int .i64 d] 45)) := by (repeat' (first | (with_reducible exact Below.refl _ _) | (with_reducible assumption) | (with_reducible refine Below.next ?_ (by with_reducible assumption)) | (with_reducible refine Below.drew ?_) | (with_reducible refine Below.laid ?_ _) | (with_reducible refine Below.setCell ?_ ?_ _) | (with_reducible refine size_of ?_) | (with_reducible refine Nat.le_succ_of_le ?_) | go_size))
  generalize printAV ⟨what, s, t, n⟩ = PV at HPR HP
  generalize Venn.holdsV ⟨what, s, t, n⟩ ⟨th, a, b, d⟩ = HVv at HHO HV
  generalize Venn.holdsChk ⟨what, s, t, n⟩ ⟨th, a, b, d⟩ = HCv at HHO HV HC
  generalize Venn.atomTrue ⟨what, s, t, n⟩ ⟨th, a, b, d⟩ = AT at HRH HV
  generalize Venn.worldChk ⟨th, a, b, d⟩ = WC at HRW HRH HC
  generalize Venn.atomChk ⟨what, s, t, n⟩ = AC at HRA HCH HRT HRH HC HP
  have HTXS := Lib.hid (show (⟨(textA ⟨what, s, t, n⟩).toArray⟩ : ByteArray) = ⟨(textA ⟨what, s, t, n⟩).toArray⟩ from rfl)
  generalize (⟨(textA ⟨what, s, t, n⟩).toArray⟩ : ByteArray) = TX at HRT HP
  clear HTXS
  go_enter Tryz.func7, Tryz.ntmps7
  go_upto_region 1 with (fail)
  revert BA BW hb0
  generalize (w.alloc (.cells #[.int .i64 what, .slice SA s.length kS, .slice TA t.length kT, .int .i64 n] 32)).alloc (.cells #[.int .i64 th, .int .i64 a, .int .i64 b, .int .i64 d] 45) = w1
  intro BA BW hw1
  obtain ⟨BA0, BA1, BA2, BA3⟩ := BA.cells4
  have BAl := BA.lt
  obtain ⟨BW0, BW1, BW2, BW3⟩ := BW.cells4
  have BWl := BW.lt
  go_wp2_with fail
  refine (HRA.out _ hw1).mono ?_
  rintro e w2 ⟨rfl, hb2⟩
  have hq2 : Below w1.heap.size w1 w2 := by (repeat' (first | (with_reducible exact Below.refl _ _) | (with_reducible assumption) | (with_reducible refine Below.next ?_ (by with_reducible assumption)) | (with_reducible refine Below.drew ?_) | (with_reducible refine Below.laid ?_ _) | (with_reducible refine Below.setCell ?_ ?_ _) | (with_reducible refine size_of ?_) | (with_reducible refine Nat.le_succ_of_le ?_) | go_size))
  have hw2 : Below w.heap.size w w2 := Below.next hw1 hq2
  replace BA := BA.keep hq2
  try clear BA0 BA1 BA2 BA3 BAl
  obtain ⟨BA0, BA1, BA2, BA3⟩ := BA.cells4
  have BAl := BA.lt
  replace BW := BW.keep hq2
  try clear BW0 BW1 BW2 BW3 BWl
  obtain ⟨BW0, BW1, BW2, BW3⟩ := BW.cells4
  have BWl := BW.lt
  go_wp2_with fail
  refine (HCH.out _ hw2).mono ?_
  rintro e w3 ⟨rfl, hb3⟩
  have hq3 : Below w2.heap.size w2 w3 := by (repeat' (first | (with_reducible exact Below.refl _ _) | (with_reducible assumption) | (with_reducible refine Below.next ?_ (by with_reducible assumption)) | (with_reducible refine Below.drew ?_) | (with_reducible refine Below.laid ?_ _) | (with_reducible refine Below.setCell ?_ ?_ _) | (with_reducible refine size_of ?_) | (with_reducible refine Nat.le_succ_of_le ?_) | go_size))
  have hw3 : Below w.heap.size w w3 := Below.next hw2 hq3
  replace BA := BA.keep hq3
  try clear BA0 BA1 BA2 BA3 BAl
  obtain ⟨BA0, BA1, BA2, BA3⟩ := BA.cells4
  have BAl := BA.lt
  replace BW := BW.keep hq3
  try clear BW0 BW1 BW2 BW3 BWl
  obtain ⟨BW0, BW1, BW2, BW3⟩ := BW.cells4
  have BWl := BW.lt
  go_wp2_with fail
  refine (HVE.out AC AC _ hw3).mono ?_
  rintro e w4 ⟨rfl, hb4⟩
  rw [beq_self_eq_true]
  have hq4 : Below w3.heap.size w3 w4 := by (repeat' (first | (with_reducible exact Below.refl _ _) | (with_reducible assumption) | (with_reducible refine Below.next ?_ (by with_reducible assumption)) | (with_reducible refine Below.drew ?_) | (with_reducible refine Below.laid ?_ _) | (with_reducible refine Below.setCell ?_ ?_ _) | (with_reducible refine size_of ?_) | (with_reducible refine Nat.le_succ_of_le ?_) | go_size))
  have hw4 : Below w.heap.size w w4 := Below.next hw3 hq4
  replace BA := BA.keep hq4
  try clear BA0 BA1 BA2 BA3 BAl
  obtain ⟨BA0, BA1, BA2, BA3⟩ := BA.cells4
  have BAl := BA.lt
  replace BW := BW.keep hq4
  try clear BW0 BW1 BW2 BW3 BWl
  obtain ⟨BW0, BW1, BW2, BW3⟩ := BW.cells4
  have BWl := BW.lt
  have HW4 := Lib.hid hw4
  have BAH := Lib.hid BA
  have BWH := Lib.hid BW
  have hst : (⟨#[]⟩ : ByteArray) == ⟨#[]⟩ := by decide
  have htx : (TX == TX) = true := by rw [bytes_beq]; simp
  have htl : (TX.toList == TX.toList) = true := by simp
  have hat : (AT == AT) = true := by simp
  clear hb2 hb3 hb4 hq2 hq3 hq4 hw1 hw2 hw3
  by_cases hA : AC = 0
  rotate_left
  focus
    have hA1 : (AC == 0) = false := by simpa using hA
    have HPV := Lib.hid (show PV = .tuple #[.string ⟨#[]⟩, errV AC] by rw [HP.out, if_neg hA])
    have HCV := Lib.hid (show HCv = AC by rw [HC.out, if_neg hA])
    have HVV := Lib.hid (show HVv = false by rw [HV.out, if_neg (by rw [HCV.out]; exact hA)])
    rw [HPV.out] at HPR
    rw [HCV.out, HVV.out] at HHO
    clear HRT HRH HRW HP HC HV HPV HCV HVV hA
    go_wp2_with fail
    refine (HPR.out _ hw4).mono ?_
    rintro e w5 ⟨rfl, hb5⟩
    have hq5 : Below w4.heap.size w4 w5 := by (repeat' (first | (with_reducible exact Below.refl _ _) | (with_reducible assumption) | (with_reducible refine Below.next ?_ (by with_reducible assumption)) | (with_reducible refine Below.drew ?_) | (with_reducible refine Below.laid ?_ _) | (with_reducible refine Below.setCell ?_ ?_ _) | (with_reducible refine size_of ?_) | (with_reducible refine Nat.le_succ_of_le ?_) | go_size))
    have hw5 : Below w.heap.size w w5 := Below.next hw4 hq5
    replace BA := BA.keep hq5
    try clear BA0 BA1 BA2 BA3 BAl
    obtain ⟨BA0, BA1, BA2, BA3⟩ := BA.cells4
    have BAl := BA.lt
    replace BW := BW.keep hq5
    try clear BW0 BW1 BW2 BW3 BWl
    obtain ⟨BW0, BW1, BW2, BW3⟩ := BW.cells4
    have BWl := BW.lt
    go_wp2_with fail
    refine (HVE.out AC AC _ hw5).mono ?_
    rintro e w6 ⟨rfl, hb6⟩
    rw [beq_self_eq_true]
    have hq6 : Below w5.heap.size w5 w6 := by (repeat' (first | (with_reducible exact Below.refl _ _) | (with_reducible assumption) | (with_reducible refine Below.next ?_ (by with_reducible assumption)) | (with_reducible refine Below.drew ?_) | (with_reducible refine Below.laid ?_ _) | (with_reducible refine Below.setCell ?_ ?_ _) | (with_reducible refine size_of ?_) | (with_reducible refine Nat.le_succ_of_le ?_) | go_size))
    have hw6 : Below w.heap.size w w6 := Below.next hw5 hq6
    replace BA := BA.keep hq6
    try clear BA0 BA1 BA2 BA3 BAl
    obtain ⟨BA0, BA1, BA2, BA3⟩ := BA.cells4
    have BAl := BA.lt
    replace BW := BW.keep hq6
    try clear BW0 BW1 BW2 BW3 BWl
    obtain ⟨BW0, BW1, BW2, BW3⟩ := BW.cells4
    have BWl := BW.lt
    go_wp2_with fail
    refine (HHO.out _ hw6).mono ?_
    rintro e w7 ⟨rfl, hb7⟩
    have hq7 : Below w6.heap.size w6 w7 := by (repeat' (first | (with_reducible exact Below.refl _ _) | (with_reducible assumption) | (with_reducible refine Below.next ?_ (by with_reducible assumption)) | (with_reducible refine Below.drew ?_) | (with_reducible refine Below.laid ?_ _) | (with_reducible refine Below.setCell ?_ ?_ _) | (with_reducible refine size_of ?_) | (with_reducible refine Nat.le_succ_of_le ?_) | go_size))
    have hw7 : Below w.heap.size w w7 := Below.next hw6 hq7
    replace BA := BA.keep hq7
    try clear BA0 BA1 BA2 BA3 BAl
    obtain ⟨BA0, BA1, BA2, BA3⟩ := BA.cells4
    have BAl := BA.lt
    replace BW := BW.keep hq7
    try clear BW0 BW1 BW2 BW3 BWl
    obtain ⟨BW0, BW1, BW2, BW3⟩ := BW.cells4
    have BWl := BW.lt
    go_wp2_with fail
    refine (HVE.out AC AC _ hw7).mono ?_
    rintro e w8 ⟨rfl, hb8⟩
    rw [beq_self_eq_true]
    have hq8 : Below w7.heap.size w7 w8 := by (repeat' (first | (with_reducible exact Below.refl _ _) | (with_reducible assumption) | (with_reducible refine Below.next ?_ (by with_reducible assumption)) | (with_reducible refine Below.drew ?_) | (with_reducible refine Below.laid ?_ _) | (with_reducible refine Below.setCell ?_ ?_ _) | (with_reducible refine size_of ?_) | (with_reducible refine Nat.le_succ_of_le ?_) | go_size))
    have hw8 : Below w.heap.size w w8 := Below.next hw7 hq8
    replace BA := BA.keep hq8
    try clear BA0 BA1 BA2 BA3 BAl
    obtain ⟨BA0, BA1, BA2, BA3⟩ := BA.cells4
    have BAl := BA.lt
    replace BW := BW.keep hq8
    try clear BW0 BW1 BW2 BW3 BWl
    obtain ⟨BW0, BW1, BW2, BW3⟩ := BW.cells4
    have BWl := BW.lt
    have hw19 := hw8
    go_upto_region 15 with (fail)
    clear BA BA0 BA1 BA2 BA3 BAl BW BW0 BW1 BW2 BW3 BWl hw4 hw5 hw6 hw7 hw8 hb5 hb6 hb7 hb8 hq5 hq6 hq7 hq8 hA1
    revert hw19
    generalize w8 = w19
    intro hw19
  rotate_left
  by_cases hW : WC = 0
  rotate_left
  focus
    have hW1 : (WC == 0) = false := by simpa using hW
    have HRT0 := Lib.hid (HRT.out hA)
    clear HRT
    subst hA
    have HPV := Lib.hid (show PV = .tuple #[.string TX, .nilIface] by rw [HP.out, if_pos rfl])
    have HCV := Lib.hid (show HCv = WC by rw [HC.out, if_pos rfl])
    have HVV := Lib.hid (show HVv = false by rw [HV.out, if_neg (by rw [HCV.out]; exact hW)])
    have HV0 := Lib.hid (fun W hW => HVE.out 0 0 W hW)
    rw [errV_zero rfl] at HV0
    rw [HPV.out] at HPR
    rw [HCV.out, HVV.out] at HHO
    clear HRH HP HC HV HPV HCV HVV hW
    go_wp2_with fail
    refine (HRT0.out _ hw4).mono ?_
    rintro e w5 ⟨rfl, hb5⟩
    have hq5 : Below w4.heap.size w4 w5 := by (repeat' (first | (with_reducible exact Below.refl _ _) | (with_reducible assumption) | (with_reducible refine Below.next ?_ (by with_reducible assumption)) | (with_reducible refine Below.drew ?_) | (with_reducible refine Below.laid ?_ _) | (with_reducible refine Below.setCell ?_ ?_ _) | (with_reducible refine size_of ?_) | (with_reducible refine Nat.le_succ_of_le ?_) | go_size))
    have hw5 : Below w.heap.size w w5 := Below.next hw4 hq5
    replace BA := BA.keep hq5
    try clear BA0 BA1 BA2 BA3 BAl
    obtain ⟨BA0, BA1, BA2, BA3⟩ := BA.cells4
    have BAl := BA.lt
    replace BW := BW.keep hq5
    try clear BW0 BW1 BW2 BW3 BWl
    obtain ⟨BW0, BW1, BW2, BW3⟩ := BW.cells4
    have BWl := BW.lt
    go_wp2_with fail
    refine (HPR.out _ hw5).mono ?_
    rintro e w6 ⟨rfl, hb6⟩
    have hq6 : Below w5.heap.size w5 w6 := by (repeat' (first | (with_reducible exact Below.refl _ _) | (with_reducible assumption) | (with_reducible refine Below.next ?_ (by with_reducible assumption)) | (with_reducible refine Below.drew ?_) | (with_reducible refine Below.laid ?_ _) | (with_reducible refine Below.setCell ?_ ?_ _) | (with_reducible refine size_of ?_) | (with_reducible refine Nat.le_succ_of_le ?_) | go_size))
    have hw6 : Below w.heap.size w w6 := Below.next hw5 hq6
    replace BA := BA.keep hq6
    try clear BA0 BA1 BA2 BA3 BAl
    obtain ⟨BA0, BA1, BA2, BA3⟩ := BA.cells4
    have BAl := BA.lt
    replace BW := BW.keep hq6
    try clear BW0 BW1 BW2 BW3 BWl
    obtain ⟨BW0, BW1, BW2, BW3⟩ := BW.cells4
    have BWl := BW.lt
    go_wp2_with fail
    refine (HV0.out _ hw6).mono ?_
    rintro e w7 ⟨rfl, hb7⟩
    rw [beq_self_eq_true]
    have hq7 : Below w6.heap.size w6 w7 := by (repeat' (first | (with_reducible exact Below.refl _ _) | (with_reducible assumption) | (with_reducible refine Below.next ?_ (by with_reducible assumption)) | (with_reducible refine Below.drew ?_) | (with_reducible refine Below.laid ?_ _) | (with_reducible refine Below.setCell ?_ ?_ _) | (with_reducible refine size_of ?_) | (with_reducible refine Nat.le_succ_of_le ?_) | go_size))
    have hw7 : Below w.heap.size w w7 := Below.next hw6 hq7
    replace BA := BA.keep hq7
    try clear BA0 BA1 BA2 BA3 BAl
    obtain ⟨BA0, BA1, BA2, BA3⟩ := BA.cells4
    have BAl := BA.lt
    replace BW := BW.keep hq7
    try clear BW0 BW1 BW2 BW3 BWl
    obtain ⟨BW0, BW1, BW2, BW3⟩ := BW.cells4
    have BWl := BW.lt
    go_wp2_with fail
    refine (HRW.out _).mono ?_
    rintro e w8 ⟨rfl, hb8⟩
    have hq8 : Below w7.heap.size w7 w8 := by (repeat' (first | (with_reducible exact Below.refl _ _) | (with_reducible assumption) | (with_reducible refine Below.next ?_ (by with_reducible assumption)) | (with_reducible refine Below.drew ?_) | (with_reducible refine Below.laid ?_ _) | (with_reducible refine Below.setCell ?_ ?_ _) | (with_reducible refine size_of ?_) | (with_reducible refine Nat.le_succ_of_le ?_) | go_size))
    have hw8 : Below w.heap.size w w8 := Below.next hw7 hq8
    replace BA := BA.keep hq8
    try clear BA0 BA1 BA2 BA3 BAl
    obtain ⟨BA0, BA1, BA2, BA3⟩ := BA.cells4
    have BAl := BA.lt
    replace BW := BW.keep hq8
    try clear BW0 BW1 BW2 BW3 BWl
    obtain ⟨BW0, BW1, BW2, BW3⟩ := BW.cells4
    have BWl := BW.lt
    go_wp2_with fail
    refine (HHO.out _ hw8).mono ?_
    rintro e w9 ⟨rfl, hb9⟩
    have hq9 : Below w8.heap.size w8 w9 := by (repeat' (first | (with_reducible exact Below.refl _ _) | (with_reducible assumption) | (with_reducible refine Below.next ?_ (by with_reducible assumption)) | (with_reducible refine Below.drew ?_) | (with_reducible refine Below.laid ?_ _) | (with_reducible refine Below.setCell ?_ ?_ _) | (with_reducible refine size_of ?_) | (with_reducible refine Nat.le_succ_of_le ?_) | go_size))
    have hw9 : Below w.heap.size w w9 := Below.next hw8 hq9
    replace BA := BA.keep hq9
    try clear BA0 BA1 BA2 BA3 BAl
    obtain ⟨BA0, BA1, BA2, BA3⟩ := BA.cells4
    have BAl := BA.lt
    replace BW := BW.keep hq9
    try clear BW0 BW1 BW2 BW3 BWl
    obtain ⟨BW0, BW1, BW2, BW3⟩ := BW.cells4
    have BWl := BW.lt
    go_wp2_with fail
    refine (HVE.out WC WC _ hw9).mono ?_
    rintro e w10 ⟨rfl, hb10⟩
    rw [beq_self_eq_true]
    have hq10 : Below w9.heap.size w9 w10 := by (repeat' (first | (with_reducible exact Below.refl _ _) | (with_reducible assumption) | (with_reducible refine Below.next ?_ (by with_reducible assumption)) | (with_reducible refine Below.drew ?_) | (with_reducible refine Below.laid ?_ _) | (with_reducible refine Below.setCell ?_ ?_ _) | (with_reducible refine size_of ?_) | (with_reducible refine Nat.le_succ_of_le ?_) | go_size))
    have hw10 : Below w.heap.size w w10 := Below.next hw9 hq10
    replace BA := BA.keep hq10
    try clear BA0 BA1 BA2 BA3 BAl
    obtain ⟨BA0, BA1, BA2, BA3⟩ := BA.cells4
    have BAl := BA.lt
    replace BW := BW.keep hq10
    try clear BW0 BW1 BW2 BW3 BWl
    obtain ⟨BW0, BW1, BW2, BW3⟩ := BW.cells4
    have BWl := BW.lt
    have hw19 := hw10
    go_upto_region 15 with (fail)
    clear BA BA0 BA1 BA2 BA3 BAl BW BW0 BW1 BW2 BW3 BWl hw4 hw5 hw6 hw7 hw8 hw9 hw10 hb5 hb6 hb7 hb8 hb9 hb10 hq5 hq6 hq7 hq8 hq9 hq10 hW1
    revert hw19
    generalize w10 = w19
    intro hw19
  rotate_left
  rotate_left
  focus
    have HRT0 := Lib.hid (HRT.out hA)
    have HRH0 := Lib.hid (HRH.out hA hW)
    clear HRT HRH
    subst hA hW
    have HPV := Lib.hid (show PV = .tuple #[.string TX, .nilIface] by rw [HP.out, if_pos rfl])
    have HCV := Lib.hid (show HCv = 0 by rw [HC.out, if_pos rfl])
    have HVV := Lib.hid (show HVv = AT by rw [HV.out, if_pos HCV.out])
    have HV0 := Lib.hid (fun W hW => HVE.out 0 0 W hW)
    rw [errV_zero rfl] at HV0
    rw [HPV.out] at HPR
    rw [HCV.out, HVV.out, errV_zero rfl] at HHO
    clear HP HC HV HPV HCV HVV
    go_wp2_with fail
    refine (HRT0.out _ hw4).mono ?_
    rintro e w5 ⟨rfl, hb5⟩
    have hq5 : Below w4.heap.size w4 w5 := by (repeat' (first | (with_reducible exact Below.refl _ _) | (with_reducible assumption) | (with_reducible refine Below.next ?_ (by with_reducible assumption)) | (with_reducible refine Below.drew ?_) | (with_reducible refine Below.laid ?_ _) | (with_reducible refine Below.setCell ?_ ?_ _) | (with_reducible refine size_of ?_) | (with_reducible refine Nat.le_succ_of_le ?_) | go_size))
    have hw5 : Below w.heap.size w w5 := Below.next hw4 hq5
    replace BA := BA.keep hq5
    try clear BA0 BA1 BA2 BA3 BAl
    obtain ⟨BA0, BA1, BA2, BA3⟩ := BA.cells4
    have BAl := BA.lt
    replace BW := BW.keep hq5
    try clear BW0 BW1 BW2 BW3 BWl
    obtain ⟨BW0, BW1, BW2, BW3⟩ := BW.cells4
    have BWl := BW.lt
    go_wp2_with fail
    refine (HPR.out _ hw5).mono ?_
    rintro e w6 ⟨rfl, hb6⟩
    have hq6 : Below w5.heap.size w5 w6 := by (repeat' (first | (with_reducible exact Below.refl _ _) | (with_reducible assumption) | (with_reducible refine Below.next ?_ (by with_reducible assumption)) | (with_reducible refine Below.drew ?_) | (with_reducible refine Below.laid ?_ _) | (with_reducible refine Below.setCell ?_ ?_ _) | (with_reducible refine size_of ?_) | (with_reducible refine Nat.le_succ_of_le ?_) | go_size))
    have hw6 : Below w.heap.size w w6 := Below.next hw5 hq6
    replace BA := BA.keep hq6
    try clear BA0 BA1 BA2 BA3 BAl
    obtain ⟨BA0, BA1, BA2, BA3⟩ := BA.cells4
    have BAl := BA.lt
    replace BW := BW.keep hq6
    try clear BW0 BW1 BW2 BW3 BWl
    obtain ⟨BW0, BW1, BW2, BW3⟩ := BW.cells4
    have BWl := BW.lt
    go_wp2_with fail
    refine (HV0.out _ hw6).mono ?_
    rintro e w7 ⟨rfl, hb7⟩
    rw [beq_self_eq_true]
    have hq7 : Below w6.heap.size w6 w7 := by (repeat' (first | (with_reducible exact Below.refl _ _) | (with_reducible assumption) | (with_reducible refine Below.next ?_ (by with_reducible assumption)) | (with_reducible refine Below.drew ?_) | (with_reducible refine Below.laid ?_ _) | (with_reducible refine Below.setCell ?_ ?_ _) | (with_reducible refine size_of ?_) | (with_reducible refine Nat.le_succ_of_le ?_) | go_size))
    have hw7 : Below w.heap.size w w7 := Below.next hw6 hq7
    replace BA := BA.keep hq7
    try clear BA0 BA1 BA2 BA3 BAl
    obtain ⟨BA0, BA1, BA2, BA3⟩ := BA.cells4
    have BAl := BA.lt
    replace BW := BW.keep hq7
    try clear BW0 BW1 BW2 BW3 BWl
    obtain ⟨BW0, BW1, BW2, BW3⟩ := BW.cells4
    have BWl := BW.lt
    go_wp2_with fail
    refine (HRW.out _).mono ?_
    rintro e w8 ⟨rfl, hb8⟩
    have hq8 : Below w7.heap.size w7 w8 := by (repeat' (first | (with_reducible exact Below.refl _ _) | (with_reducible assumption) | (with_reducible refine Below.next ?_ (by with_reducible assumption)) | (with_reducible refine Below.drew ?_) | (with_reducible refine Below.laid ?_ _) | (with_reducible refine Below.setCell ?_ ?_ _) | (with_reducible refine size_of ?_) | (with_reducible refine Nat.le_succ_of_le ?_) | go_size))
    have hw8 : Below w.heap.size w w8 := Below.next hw7 hq8
    replace BA := BA.keep hq8
    try clear BA0 BA1 BA2 BA3 BAl
    obtain ⟨BA0, BA1, BA2, BA3⟩ := BA.cells4
    have BAl := BA.lt
    replace BW := BW.keep hq8
    try clear BW0 BW1 BW2 BW3 BWl
    obtain ⟨BW0, BW1, BW2, BW3⟩ := BW.cells4
    have BWl := BW.lt
    go_wp2_with fail
    refine (HRH0.out _ hw8).mono ?_
    rintro e w9 ⟨rfl, hb9⟩
    have hq9 : Below w8.heap.size w8 w9 := by (repeat' (first | (with_reducible exact Below.refl _ _) | (with_reducible assumption) | (with_reducible refine Below.next ?_ (by with_reducible assumption)) | (with_reducible refine Below.drew ?_) | (with_reducible refine Below.laid ?_ _) | (with_reducible refine Below.setCell ?_ ?_ _) | (with_reducible refine size_of ?_) | (with_reducible refine Nat.le_succ_of_le ?_) | go_size))
    have hw9 : Below w.heap.size w w9 := Below.next hw8 hq9
    replace BA := BA.keep hq9
    try clear BA0 BA1 BA2 BA3 BAl
    obtain ⟨BA0, BA1, BA2, BA3⟩ := BA.cells4
    have BAl := BA.lt
    replace BW := BW.keep hq9
    try clear BW0 BW1 BW2 BW3 BWl
    obtain ⟨BW0, BW1, BW2, BW3⟩ := BW.cells4
    have BWl := BW.lt
    go_wp2_with fail
    refine (HHO.out _ hw9).mono ?_
    rintro e w10 ⟨rfl, hb10⟩
    have hq10 : Below w9.heap.size w9 w10 := by (repeat' (first | (with_reducible exact Below.refl _ _) | (with_reducible assumption) | (with_reducible refine Below.next ?_ (by with_reducible assumption)) | (with_reducible refine Below.drew ?_) | (with_reducible refine Below.laid ?_ _) | (with_reducible refine Below.setCell ?_ ?_ _) | (with_reducible refine size_of ?_) | (with_reducible refine Nat.le_succ_of_le ?_) | go_size))
    have hw10 : Below w.heap.size w w10 := Below.next hw9 hq10
    replace BA := BA.keep hq10
    try clear BA0 BA1 BA2 BA3 BAl
    obtain ⟨BA0, BA1, BA2, BA3⟩ := BA.cells4
    have BAl := BA.lt
    replace BW := BW.keep hq10
    try clear BW0 BW1 BW2 BW3 BWl
    obtain ⟨BW0, BW1, BW2, BW3⟩ := BW.cells4
    have BWl := BW.lt
    go_wp2_with fail
    refine (HV0.out _ hw10).mono ?_
    rintro e w11 ⟨rfl, hb11⟩
    rw [beq_self_eq_true]
    have hq11 : Below w10.heap.size w10 w11 := by (repeat' (first | (with_reducible exact Below.refl _ _) | (with_reducible assumption) | (with_reducible refine Below.next ?_ (by with_reducible assumption)) | (with_reducible refine Below.drew ?_) | (with_reducible refine Below.laid ?_ _) | (with_reducible refine Below.setCell ?_ ?_ _) | (with_reducible refine size_of ?_) | (with_reducible refine Nat.le_succ_of_le ?_) | go_size))
    have hw11 : Below w.heap.size w w11 := Below.next hw10 hq11
    replace BA := BA.keep hq11
    try clear BA0 BA1 BA2 BA3 BAl
    obtain ⟨BA0, BA1, BA2, BA3⟩ := BA.cells4
    have BAl := BA.lt
    replace BW := BW.keep hq11
    try clear BW0 BW1 BW2 BW3 BWl
    obtain ⟨BW0, BW1, BW2, BW3⟩ := BW.cells4
    have BWl := BW.lt
    have hw19 := hw11
    go_upto_region 15 with (fail)
    clear BA BA0 BA1 BA2 BA3 BAl BW BW0 BW1 BW2 BW3 BWl hw4 hw5 hw6 hw7 hw8 hw9 hw10 hw11 hb5 hb6 hb7 hb8 hb9 hb10 hb11 hq5 hq6 hq7 hq8 hq9 hq10 hq11
    revert hw19
    generalize w11 = w19
    intro hw19
  all_goals
    have HW19 := Lib.hid hw19
    have HR1 := Lib.hid (ref_ReadAtom str w19 HSZ.out)
    have HR2 := Lib.hid (fun W (hW : Below w19.heap.size w19 W) => atom_Parse str W HSZ.out (HK.out.keep (Below.next HW19.out hW)) (HTB.out.keep (Below.next HW19.out hW)) (HER.out.keep (Below.next HW19.out hW)) (HMX.out.keep (Below.next HW19.out hW)))
    generalize parseAChk (readA (wordsOf str)) = E at HR1 HR2
    generalize parseAV (readA (wordsOf str)) = V at HR1 HR2
    obtain ⟨xw, xs, xt, xm⟩ := V
    clear hw19 HSZ
    go_wp2_with fail
    refine (HR1.out).mono ?_
    rintro e w20 ⟨XA, xn, xc, XB, yn, yc, rfl, hb20, hX, hY⟩
    dsimp only at hX hY ⊢
    have hal : Below w20.heap.size w20 (w20.alloc (.cells #[.int .i64 xw, .slice XA xn xc, .slice XB yn yc, .int .i64 xm] 32)) := (Below.refl _ _).alloc (Nat.le_refl _) _
    have BX := Blk.new w20 32 #[.int .i64 xw, .slice XA xn xc, .slice XB yn yc, .int .i64 xm]
    have HB21 := Lib.hid (Below.next hb20 hal)
    have HX := Lib.hid (hX.keep hal)
    have HY := Lib.hid (hY.keep hal)
    clear hX hY
    go_upto_region 16 with (fail)
    clear hb20
    revert hal BX HB21 HX HY
    generalize w20.alloc (.cells #[.int .i64 xw, .slice XA xn xc, .slice XB yn yc, .int .i64 xm] 32) = w21
    intro hal BX HB21 HX HY
    go_wp2_with fail
    refine (HR2.out _ HB21.out).mono ?_
    rintro e w22 ⟨ZA, zn, zc, ZB, un, uc, rfl, hb22, hZ, hU⟩
    dsimp only at hZ hU ⊢
    have hal2 : Below w22.heap.size w22 (w22.alloc (.cells #[.int .i64 xw, .slice ZA zn zc, .slice ZB un uc, .int .i64 xm] 32)) := (Below.refl _ _).alloc (Nat.le_refl _) _
    have BZ := Blk.new w22 32 #[.int .i64 xw, .slice ZA zn zc, .slice ZB un uc, .int .i64 xm]
    have BX2 := (BX.keep hb22).keep hal2
    have HB23 := Lib.hid (Below.next HB21.out (Below.next hb22 hal2))
    have HZ := Lib.hid (hZ.keep hal2)
    have HU := Lib.hid (hU.keep hal2)
    have HX2 := Lib.hid ((HX.out.keep hb22).keep hal2)
    have HY2 := Lib.hid ((HY.out.keep hb22).keep hal2)
    clear hZ hU BX hal HX HY
    go_upto_region 17 with (fail)
    clear hb22
    revert hal2 BZ BX2 HB23 HZ HU HX2 HY2
    generalize w22.alloc (.cells #[.int .i64 xw, .slice ZA zn zc, .slice ZB un uc, .int .i64 xm] 32) = w23
    intro hal2 BZ BX2 HB23 HZ HU HX2 HY2
    clear hal2
    go_wp2_with fail
    refine (HVE.out E E _ (Below.next HW19.out HB23.out)).mono ?_
    rintro e w24 ⟨rfl, hb24⟩
    rw [beq_self_eq_true]
    have BZ4 := BZ.keep hb24
    have BX4 := BX2.keep hb24
    obtain ⟨c0, c1, c2, c3⟩ := BZ4.cells4
    obtain ⟨d0, d1, d2, d3⟩ := BX4.cells4
    go_wp2_with fail
    refine (same_Atom xw xm _ _ _ _ xs xt _ (HZ.out.keep hb24) (HU.out.keep hb24) (HX2.out.keep hb24) (HY2.out.keep hb24)).mono ?_
    rintro e w25 ⟨rfl, hb25⟩
    go_wp2
    go_ret
    exact ⟨rfl, Below.next HW19.out (Below.next HB23.out (Below.next hb24 hb25))⟩
end Go.Proofs.YtcloppcekbdbaaaGreatDoor
