/-
  vennlaw2.AlikeTells where one is no term. (Written by gen_aliketells.py.)
-/
import Derived.Test.YtpcdiilgomfpbaaDoorAlikeFlags
namespace Go.Proofs.YtpcdiilgomfpbaaDoor
open Go.ChangeShapes Go.WideShapes Go.ChangeAt Go.RowKit

set_option maxHeartbeats 8000000 in
set_option maxRecDepth 100000 in
theorem alikeTells_bad (u v : Value) (s t : List Int) (x y : Int) (w : World) (hs : IsInts w u s) (ht : IsInts w v t) (HET : EtOk w) (hc : ¬ Venn.termChk s = 0) :
    Calls Tryd.prog 9 #[u, v, .int .i64 x, .int .i64 y] w (Keeps (.bool true) w) := by
  obtain ⟨SA, sc, rfl, hs'⟩ := hs
  obtain ⟨TA, tc, rfl, ht'⟩ := ht
  have HS := Lib.hid (show IsInts w (.slice SA s.length sc) s from ⟨SA, sc, rfl, hs'⟩)
  have HT := Lib.hid (show IsInts w (.slice TA t.length tc) t from ⟨TA, tc, rfl, ht'⟩)
  clear hs' ht'
  have hc2 : Venn.chk2 s t = Venn.termChk s := by rw [Venn.chk2, if_neg hc]
  obtain ⟨b1, b2, b3⟩ := flags_bad (show ¬ Venn.chk2 s t = 0 by rw [hc2]; exact hc)
  have HSM := Lib.hid b1
  have HPT := Lib.hid b2
  have HAP := Lib.hid b3
  have HC2 := Lib.hid hc2
  have HSW := Lib.hid (show Venn.swapChk s x y = Venn.termChk s from if_neg hc)
  have HSWL := Lib.hid (show (if Venn.swapChk s x y = 0 then Venn.swapL s x y else []) = [] by rw [HSW.out]; exact if_neg hc)
  have hk1 : (Venn.termChk s == 0) = false := by simpa using hc
  have HRS := Lib.hid (fun W h => ref_Term (.slice SA s.length sc) s W h)
  clear hc2 b1 b2 b3 hc
  generalize Venn.termChk s = K at HC2 HSW hk1 HRS
  rcases Classical.em ((0 : Int) < (s.length : Int)) with hl0 | hl0
  all_goals
    go_enter Tryd.func9, Tryd.ntmps9
    go_wp2_with fail
    refine (HRS.out _ (HS.out.keep (by (repeat' (first | (with_reducible exact Below.refl _ _) | (with_reducible refine Below.next ?_ (by with_reducible assumption)) | (with_reducible refine Below.drew ?_) | (with_reducible refine Below.laid ?_ _) | (with_reducible refine Below.setCell ?_ ?_ _) | (with_reducible refine size_of ?_) | (with_reducible refine Nat.le_succ_of_le ?_) | go_size))))).mono ?_
    rintro e w' ⟨rfl, rfl⟩
    go_wp2_with fail
    refine wp_loop_rounds 1 ?_
    rw [rounds_succ]
    go_wp2_with fail
    refine (alike_Same _ _ s t _ (HS.out.keep (by (repeat' (first | (with_reducible exact Below.refl _ _) | (with_reducible refine Below.next ?_ (by with_reducible assumption)) | (with_reducible refine Below.drew ?_) | (with_reducible refine Below.laid ?_ _) | (with_reducible refine Below.setCell ?_ ?_ _) | (with_reducible refine size_of ?_) | (with_reducible refine Nat.le_succ_of_le ?_) | go_size)))) (HT.out.keep (by (repeat' (first | (with_reducible exact Below.refl _ _) | (with_reducible refine Below.next ?_ (by with_reducible assumption)) | (with_reducible refine Below.drew ?_) | (with_reducible refine Below.laid ?_ _) | (with_reducible refine Below.setCell ?_ ?_ _) | (with_reducible refine size_of ?_) | (with_reducible refine Nat.le_succ_of_le ?_) | go_size))))).mono ?_
    rintro e wa0 ⟨rfl, ha0⟩
    rw [HSM.out, HC2.out]
    go_wp2_with fail
    refine (vennsame_Error _ _ _ (HET.keep (by (repeat' (first | (with_reducible exact Below.refl _ _) | (with_reducible refine Below.next ?_ (by with_reducible assumption)) | (with_reducible refine Below.drew ?_) | (with_reducible refine Below.laid ?_ _) | (with_reducible refine Below.setCell ?_ ?_ _) | (with_reducible refine size_of ?_) | (with_reducible refine Nat.le_succ_of_le ?_) | go_size))))).mono ?_
    rintro e we0 ⟨rfl, he0⟩
    go_wp2_with fail
    refine (alike_Part _ _ s t _ (HS.out.keep (by (repeat' (first | (with_reducible exact Below.refl _ _) | (with_reducible refine Below.next ?_ (by with_reducible assumption)) | (with_reducible refine Below.drew ?_) | (with_reducible refine Below.laid ?_ _) | (with_reducible refine Below.setCell ?_ ?_ _) | (with_reducible refine size_of ?_) | (with_reducible refine Nat.le_succ_of_le ?_) | go_size)))) (HT.out.keep (by (repeat' (first | (with_reducible exact Below.refl _ _) | (with_reducible refine Below.next ?_ (by with_reducible assumption)) | (with_reducible refine Below.drew ?_) | (with_reducible refine Below.laid ?_ _) | (with_reducible refine Below.setCell ?_ ?_ _) | (with_reducible refine size_of ?_) | (with_reducible refine Nat.le_succ_of_le ?_) | go_size))))).mono ?_
    rintro e wa1 ⟨rfl, ha1⟩
    rw [HPT.out, HC2.out]
    go_wp2_with fail
    refine (vennsame_Error _ _ _ (HET.keep (by (repeat' (first | (with_reducible exact Below.refl _ _) | (with_reducible refine Below.next ?_ (by with_reducible assumption)) | (with_reducible refine Below.drew ?_) | (with_reducible refine Below.laid ?_ _) | (with_reducible refine Below.setCell ?_ ?_ _) | (with_reducible refine size_of ?_) | (with_reducible refine Nat.le_succ_of_le ?_) | go_size))))).mono ?_
    rintro e we1 ⟨rfl, he1⟩
    go_wp2_with fail
    refine (alike_Apart _ _ s t _ (HS.out.keep (by (repeat' (first | (with_reducible exact Below.refl _ _) | (with_reducible refine Below.next ?_ (by with_reducible assumption)) | (with_reducible refine Below.drew ?_) | (with_reducible refine Below.laid ?_ _) | (with_reducible refine Below.setCell ?_ ?_ _) | (with_reducible refine size_of ?_) | (with_reducible refine Nat.le_succ_of_le ?_) | go_size)))) (HT.out.keep (by (repeat' (first | (with_reducible exact Below.refl _ _) | (with_reducible refine Below.next ?_ (by with_reducible assumption)) | (with_reducible refine Below.drew ?_) | (with_reducible refine Below.laid ?_ _) | (with_reducible refine Below.setCell ?_ ?_ _) | (with_reducible refine size_of ?_) | (with_reducible refine Nat.le_succ_of_le ?_) | go_size))))).mono ?_
    rintro e wa2 ⟨rfl, ha2⟩
    rw [HAP.out, HC2.out]
    go_wp2_with fail
    refine (vennsame_Error _ _ _ (HET.keep (by (repeat' (first | (with_reducible exact Below.refl _ _) | (with_reducible refine Below.next ?_ (by with_reducible assumption)) | (with_reducible refine Below.drew ?_) | (with_reducible refine Below.laid ?_ _) | (with_reducible refine Below.setCell ?_ ?_ _) | (with_reducible refine size_of ?_) | (with_reducible refine Nat.le_succ_of_le ?_) | go_size))))).mono ?_
    rintro e we2 ⟨rfl, he2⟩
    go_wp2_with fail
    refine wp_loop_rounds 1 ?_
    rw [rounds_succ]
    go_wp2_with fail
    refine (alike_Swap _ s x y _ (HS.out.keep (by (repeat' (first | (with_reducible exact Below.refl _ _) | (with_reducible refine Below.next ?_ (by with_reducible assumption)) | (with_reducible refine Below.drew ?_) | (with_reducible refine Below.laid ?_ _) | (with_reducible refine Below.setCell ?_ ?_ _) | (with_reducible refine size_of ?_) | (with_reducible refine Nat.le_succ_of_le ?_) | go_size))))).mono ?_
    rintro e w3 ⟨z, rfl, hb3, hz⟩
    rw [HSW.out]
    rw [HSWL.out] at hz
    obtain ⟨ZA, zc, rfl⟩ := hz.slice
    go_wp2_with fail
    refine (vennsame_Error _ _ _ (HET.keep (by (repeat' (first | (with_reducible exact Below.refl _ _) | (with_reducible refine Below.next ?_ (by with_reducible assumption)) | (with_reducible refine Below.drew ?_) | (with_reducible refine Below.laid ?_ _) | (with_reducible refine Below.setCell ?_ ?_ _) | (with_reducible refine size_of ?_) | (with_reducible refine Nat.le_succ_of_le ?_) | go_size))))).mono ?_
    rintro e we9 ⟨rfl, he9⟩
    go_wp2_with fail
    refine (same_Ints _ _ [] [] _ (hz.keep (by (repeat' (first | (with_reducible exact Below.refl _ _) | (with_reducible refine Below.next ?_ (by with_reducible assumption)) | (with_reducible refine Below.drew ?_) | (with_reducible refine Below.laid ?_ _) | (with_reducible refine Below.setCell ?_ ?_ _) | (with_reducible refine size_of ?_) | (with_reducible refine Nat.le_succ_of_le ?_) | go_size)))) (IsIntsNil _)).mono ?_
    rintro e w4 ⟨rfl, hb4⟩
    go_wp2
    go_ret
    exact ⟨by simp, by (repeat' (first | (with_reducible exact Below.refl _ _) | (with_reducible refine Below.next ?_ (by with_reducible assumption)) | (with_reducible refine Below.drew ?_) | (with_reducible refine Below.laid ?_ _) | (with_reducible refine Below.setCell ?_ ?_ _) | (with_reducible refine size_of ?_) | (with_reducible refine Nat.le_succ_of_le ?_) | go_size))⟩

set_option maxHeartbeats 8000000 in
set_option maxRecDepth 100000 in
theorem alikeTells_half (u v : Value) (s t : List Int) (x y : Int) (w : World) (hs : IsInts w u s) (ht : IsInts w v t) (HET : EtOk w) (hc : Venn.termChk s = 0) (hct : ¬ Venn.termChk t = 0) :
    Calls Tryd.prog 9 #[u, v, .int .i64 x, .int .i64 y] w (Keeps (.bool true) w) := by
  obtain ⟨SA, sc, rfl, hs'⟩ := hs
  obtain ⟨TA, tc, rfl, ht'⟩ := ht
  have HS := Lib.hid (show IsInts w (.slice SA s.length sc) s from ⟨SA, sc, rfl, hs'⟩)
  have HT := Lib.hid (show IsInts w (.slice TA t.length tc) t from ⟨TA, tc, rfl, ht'⟩)
  have HSR := Lib.hid hs'.1
  clear hs' ht'
  have h12 : s.length ≤ 12 := (Venn.termChk_parts hc).2.1
  have hl0 : (0 : Int) < (s.length : Int) := by have := (Venn.termChk_parts hc).1; omega
  have hc2 : Venn.chk2 s t = Venn.termChk t := by rw [Venn.chk2, if_pos hc]
  obtain ⟨b1, b2, b3⟩ := flags_bad (show ¬ Venn.chk2 s t = 0 by rw [hc2]; exact hct)
  have HSM := Lib.hid b1
  have HPT := Lib.hid b2
  have HAP := Lib.hid b3
  have HC2 := Lib.hid hc2
  have HCS := Lib.hid hc
  have hk1 : (Venn.termChk t == 0) = false := by simpa using hct
  have HCT := Lib.hid (show Venn.termChk t = Venn.termChk t from rfl)
  have HRT := Lib.hid (fun W h => ref_Term (.slice TA t.length tc) t W h)
  clear hc2 b1 b2 b3 hct HCT
  generalize Venn.termChk t = K at HC2 hk1 HRT
  by_cases hn : ¬ (Venn.nameOk x = true ∧ Venn.nameOk y = true)
  · have HSW := Lib.hid (show Venn.swapChk s x y = 1 by rw [Venn.swapChk, if_pos hc, if_neg hn])
    have HSWL := Lib.hid (show (if Venn.swapChk s x y = 0 then Venn.swapL s x y else []) = [] by rw [HSW.out]; rfl)
    have hbad : x < 0 ∨ (¬ x < 0 ∧ 2 < x) ∨ (¬ x < 0 ∧ ¬ 2 < x ∧ y < 0) ∨ (¬ x < 0 ∧ ¬ 2 < x ∧ ¬ y < 0 ∧ 2 < y) := by simp [Venn.nameOk] at hn; omega
    clear hn hc
    rcases hbad with n1 | ⟨n1, n2⟩ | ⟨n1, n2, n3⟩ | ⟨n1, n2, n3, n4⟩
    all_goals
      go_enter Tryd.func9, Tryd.ntmps9
      go_wp2_with fail
      refine (ref_Term _ s _ (HS.out.keep (by (repeat' (first | (with_reducible exact Below.refl _ _) | (with_reducible refine Below.next ?_ (by with_reducible assumption)) | (with_reducible refine Below.drew ?_) | (with_reducible refine Below.laid ?_ _) | (with_reducible refine Below.setCell ?_ ?_ _) | (with_reducible refine size_of ?_) | (with_reducible refine Nat.le_succ_of_le ?_) | go_size))))).mono ?_
      rintro e w' ⟨rfl, rfl⟩
      rw [HCS.out]
      go_wp2_with fail
      refine (HRT.out _ (HT.out.keep (by (repeat' (first | (with_reducible exact Below.refl _ _) | (with_reducible refine Below.next ?_ (by with_reducible assumption)) | (with_reducible refine Below.drew ?_) | (with_reducible refine Below.laid ?_ _) | (with_reducible refine Below.setCell ?_ ?_ _) | (with_reducible refine size_of ?_) | (with_reducible refine Nat.le_succ_of_le ?_) | go_size))))).mono ?_
      rintro e w' ⟨rfl, rfl⟩
      go_wp2_with fail
      refine wp_loop_rounds 1 ?_
      rw [rounds_succ]
      go_wp2_with fail
      refine (alike_Same _ _ s t _ (HS.out.keep (by (repeat' (first | (with_reducible exact Below.refl _ _) | (with_reducible refine Below.next ?_ (by with_reducible assumption)) | (with_reducible refine Below.drew ?_) | (with_reducible refine Below.laid ?_ _) | (with_reducible refine Below.setCell ?_ ?_ _) | (with_reducible refine size_of ?_) | (with_reducible refine Nat.le_succ_of_le ?_) | go_size)))) (HT.out.keep (by (repeat' (first | (with_reducible exact Below.refl _ _) | (with_reducible refine Below.next ?_ (by with_reducible assumption)) | (with_reducible refine Below.drew ?_) | (with_reducible refine Below.laid ?_ _) | (with_reducible refine Below.setCell ?_ ?_ _) | (with_reducible refine size_of ?_) | (with_reducible refine Nat.le_succ_of_le ?_) | go_size))))).mono ?_
      rintro e wa0 ⟨rfl, ha0⟩
      rw [HSM.out, HC2.out]
      go_wp2_with fail
      refine (vennsame_Error _ _ _ (HET.keep (by (repeat' (first | (with_reducible exact Below.refl _ _) | (with_reducible refine Below.next ?_ (by with_reducible assumption)) | (with_reducible refine Below.drew ?_) | (with_reducible refine Below.laid ?_ _) | (with_reducible refine Below.setCell ?_ ?_ _) | (with_reducible refine size_of ?_) | (with_reducible refine Nat.le_succ_of_le ?_) | go_size))))).mono ?_
      rintro e we0 ⟨rfl, he0⟩
      go_wp2_with fail
      refine (alike_Part _ _ s t _ (HS.out.keep (by (repeat' (first | (with_reducible exact Below.refl _ _) | (with_reducible refine Below.next ?_ (by with_reducible assumption)) | (with_reducible refine Below.drew ?_) | (with_reducible refine Below.laid ?_ _) | (with_reducible refine Below.setCell ?_ ?_ _) | (with_reducible refine size_of ?_) | (with_reducible refine Nat.le_succ_of_le ?_) | go_size)))) (HT.out.keep (by (repeat' (first | (with_reducible exact Below.refl _ _) | (with_reducible refine Below.next ?_ (by with_reducible assumption)) | (with_reducible refine Below.drew ?_) | (with_reducible refine Below.laid ?_ _) | (with_reducible refine Below.setCell ?_ ?_ _) | (with_reducible refine size_of ?_) | (with_reducible refine Nat.le_succ_of_le ?_) | go_size))))).mono ?_
      rintro e wa1 ⟨rfl, ha1⟩
      rw [HPT.out, HC2.out]
      go_wp2_with fail
      refine (vennsame_Error _ _ _ (HET.keep (by (repeat' (first | (with_reducible exact Below.refl _ _) | (with_reducible refine Below.next ?_ (by with_reducible assumption)) | (with_reducible refine Below.drew ?_) | (with_reducible refine Below.laid ?_ _) | (with_reducible refine Below.setCell ?_ ?_ _) | (with_reducible refine size_of ?_) | (with_reducible refine Nat.le_succ_of_le ?_) | go_size))))).mono ?_
      rintro e we1 ⟨rfl, he1⟩
      go_wp2_with fail
      refine (alike_Apart _ _ s t _ (HS.out.keep (by (repeat' (first | (with_reducible exact Below.refl _ _) | (with_reducible refine Below.next ?_ (by with_reducible assumption)) | (with_reducible refine Below.drew ?_) | (with_reducible refine Below.laid ?_ _) | (with_reducible refine Below.setCell ?_ ?_ _) | (with_reducible refine size_of ?_) | (with_reducible refine Nat.le_succ_of_le ?_) | go_size)))) (HT.out.keep (by (repeat' (first | (with_reducible exact Below.refl _ _) | (with_reducible refine Below.next ?_ (by with_reducible assumption)) | (with_reducible refine Below.drew ?_) | (with_reducible refine Below.laid ?_ _) | (with_reducible refine Below.setCell ?_ ?_ _) | (with_reducible refine size_of ?_) | (with_reducible refine Nat.le_succ_of_le ?_) | go_size))))).mono ?_
      rintro e wa2 ⟨rfl, ha2⟩
      rw [HAP.out, HC2.out]
      go_wp2_with fail
      refine (vennsame_Error _ _ _ (HET.keep (by (repeat' (first | (with_reducible exact Below.refl _ _) | (with_reducible refine Below.next ?_ (by with_reducible assumption)) | (with_reducible refine Below.drew ?_) | (with_reducible refine Below.laid ?_ _) | (with_reducible refine Below.setCell ?_ ?_ _) | (with_reducible refine size_of ?_) | (with_reducible refine Nat.le_succ_of_le ?_) | go_size))))).mono ?_
      rintro e we2 ⟨rfl, he2⟩
      go_wp2_with fail
      refine wp_loop_rounds 1 ?_
      rw [rounds_succ]
      go_wp2_with fail
      refine (alike_Swap _ s x y _ (HS.out.keep (by (repeat' (first | (with_reducible exact Below.refl _ _) | (with_reducible refine Below.next ?_ (by with_reducible assumption)) | (with_reducible refine Below.drew ?_) | (with_reducible refine Below.laid ?_ _) | (with_reducible refine Below.setCell ?_ ?_ _) | (with_reducible refine size_of ?_) | (with_reducible refine Nat.le_succ_of_le ?_) | go_size))))).mono ?_
      rintro e w3 ⟨z, rfl, hb3, hz⟩
      rw [HSW.out]
      rw [HSWL.out] at hz
      obtain ⟨ZA, zc, rfl⟩ := hz.slice
      go_wp2_with fail
      refine (vennsame_Error _ _ _ (HET.keep (by (repeat' (first | (with_reducible exact Below.refl _ _) | (with_reducible refine Below.next ?_ (by with_reducible assumption)) | (with_reducible refine Below.drew ?_) | (with_reducible refine Below.laid ?_ _) | (with_reducible refine Below.setCell ?_ ?_ _) | (with_reducible refine size_of ?_) | (with_reducible refine Nat.le_succ_of_le ?_) | go_size))))).mono ?_
      rintro e we9 ⟨rfl, he9⟩
      go_wp2_with fail
      refine (same_Ints _ _ [] [] _ (hz.keep (by (repeat' (first | (with_reducible exact Below.refl _ _) | (with_reducible refine Below.next ?_ (by with_reducible assumption)) | (with_reducible refine Below.drew ?_) | (with_reducible refine Below.laid ?_ _) | (with_reducible refine Below.setCell ?_ ?_ _) | (with_reducible refine size_of ?_) | (with_reducible refine Nat.le_succ_of_le ?_) | go_size)))) (IsIntsNil _)).mono ?_
      rintro e w4 ⟨rfl, hb4⟩
      go_wp2
      go_ret
      exact ⟨by simp, by (repeat' (first | (with_reducible exact Below.refl _ _) | (with_reducible refine Below.next ?_ (by with_reducible assumption)) | (with_reducible refine Below.drew ?_) | (with_reducible refine Below.laid ?_ _) | (with_reducible refine Below.setCell ?_ ?_ _) | (with_reducible refine size_of ?_) | (with_reducible refine Nat.le_succ_of_le ?_) | go_size))⟩
  · replace hn := Decidable.not_not.1 hn
    have HSW := Lib.hid (show Venn.swapChk s x y = 0 by rw [Venn.swapChk, if_pos hc, if_pos hn])
    have HSWL := Lib.hid (show (if Venn.swapChk s x y = 0 then Venn.swapL s x y else []) = Venn.swapL s x y by rw [HSW.out]; rfl)
    have hgood : ¬ x < 0 ∧ ¬ 2 < x ∧ ¬ y < 0 ∧ ¬ 2 < y := by simp [Venn.nameOk] at hn; omega
    obtain ⟨n1, n2, n3, n4⟩ := hgood
    clear hn hc
    go_enter Tryd.func9, Tryd.ntmps9
    go_wp2_with fail
    refine (ref_Term _ s _ (HS.out.keep (by (repeat' (first | (with_reducible exact Below.refl _ _) | (with_reducible refine Below.next ?_ (by with_reducible assumption)) | (with_reducible refine Below.drew ?_) | (with_reducible refine Below.laid ?_ _) | (with_reducible refine Below.setCell ?_ ?_ _) | (with_reducible refine size_of ?_) | (with_reducible refine Nat.le_succ_of_le ?_) | go_size))))).mono ?_
    rintro e w' ⟨rfl, rfl⟩
    rw [HCS.out]
    go_wp2_with fail
    refine (HRT.out _ (HT.out.keep (by (repeat' (first | (with_reducible exact Below.refl _ _) | (with_reducible refine Below.next ?_ (by with_reducible assumption)) | (with_reducible refine Below.drew ?_) | (with_reducible refine Below.laid ?_ _) | (with_reducible refine Below.setCell ?_ ?_ _) | (with_reducible refine size_of ?_) | (with_reducible refine Nat.le_succ_of_le ?_) | go_size))))).mono ?_
    rintro e w' ⟨rfl, rfl⟩
    go_wp2_with fail
    refine wp_loop_rounds 1 ?_
    rw [rounds_succ]
    go_wp2_with fail
    refine (alike_Same _ _ s t _ (HS.out.keep (by (repeat' (first | (with_reducible exact Below.refl _ _) | (with_reducible refine Below.next ?_ (by with_reducible assumption)) | (with_reducible refine Below.drew ?_) | (with_reducible refine Below.laid ?_ _) | (with_reducible refine Below.setCell ?_ ?_ _) | (with_reducible refine size_of ?_) | (with_reducible refine Nat.le_succ_of_le ?_) | go_size)))) (HT.out.keep (by (repeat' (first | (with_reducible exact Below.refl _ _) | (with_reducible refine Below.next ?_ (by with_reducible assumption)) | (with_reducible refine Below.drew ?_) | (with_reducible refine Below.laid ?_ _) | (with_reducible refine Below.setCell ?_ ?_ _) | (with_reducible refine size_of ?_) | (with_reducible refine Nat.le_succ_of_le ?_) | go_size))))).mono ?_
    rintro e wa0 ⟨rfl, ha0⟩
    rw [HSM.out, HC2.out]
    go_wp2_with fail
    refine (vennsame_Error _ _ _ (HET.keep (by (repeat' (first | (with_reducible exact Below.refl _ _) | (with_reducible refine Below.next ?_ (by with_reducible assumption)) | (with_reducible refine Below.drew ?_) | (with_reducible refine Below.laid ?_ _) | (with_reducible refine Below.setCell ?_ ?_ _) | (with_reducible refine size_of ?_) | (with_reducible refine Nat.le_succ_of_le ?_) | go_size))))).mono ?_
    rintro e we0 ⟨rfl, he0⟩
    go_wp2_with fail
    refine (alike_Part _ _ s t _ (HS.out.keep (by (repeat' (first | (with_reducible exact Below.refl _ _) | (with_reducible refine Below.next ?_ (by with_reducible assumption)) | (with_reducible refine Below.drew ?_) | (with_reducible refine Below.laid ?_ _) | (with_reducible refine Below.setCell ?_ ?_ _) | (with_reducible refine size_of ?_) | (with_reducible refine Nat.le_succ_of_le ?_) | go_size)))) (HT.out.keep (by (repeat' (first | (with_reducible exact Below.refl _ _) | (with_reducible refine Below.next ?_ (by with_reducible assumption)) | (with_reducible refine Below.drew ?_) | (with_reducible refine Below.laid ?_ _) | (with_reducible refine Below.setCell ?_ ?_ _) | (with_reducible refine size_of ?_) | (with_reducible refine Nat.le_succ_of_le ?_) | go_size))))).mono ?_
    rintro e wa1 ⟨rfl, ha1⟩
    rw [HPT.out, HC2.out]
    go_wp2_with fail
    refine (vennsame_Error _ _ _ (HET.keep (by (repeat' (first | (with_reducible exact Below.refl _ _) | (with_reducible refine Below.next ?_ (by with_reducible assumption)) | (with_reducible refine Below.drew ?_) | (with_reducible refine Below.laid ?_ _) | (with_reducible refine Below.setCell ?_ ?_ _) | (with_reducible refine size_of ?_) | (with_reducible refine Nat.le_succ_of_le ?_) | go_size))))).mono ?_
    rintro e we1 ⟨rfl, he1⟩
    go_wp2_with fail
    refine (alike_Apart _ _ s t _ (HS.out.keep (by (repeat' (first | (with_reducible exact Below.refl _ _) | (with_reducible refine Below.next ?_ (by with_reducible assumption)) | (with_reducible refine Below.drew ?_) | (with_reducible refine Below.laid ?_ _) | (with_reducible refine Below.setCell ?_ ?_ _) | (with_reducible refine size_of ?_) | (with_reducible refine Nat.le_succ_of_le ?_) | go_size)))) (HT.out.keep (by (repeat' (first | (with_reducible exact Below.refl _ _) | (with_reducible refine Below.next ?_ (by with_reducible assumption)) | (with_reducible refine Below.drew ?_) | (with_reducible refine Below.laid ?_ _) | (with_reducible refine Below.setCell ?_ ?_ _) | (with_reducible refine size_of ?_) | (with_reducible refine Nat.le_succ_of_le ?_) | go_size))))).mono ?_
    rintro e wa2 ⟨rfl, ha2⟩
    rw [HAP.out, HC2.out]
    go_wp2_with fail
    refine (vennsame_Error _ _ _ (HET.keep (by (repeat' (first | (with_reducible exact Below.refl _ _) | (with_reducible refine Below.next ?_ (by with_reducible assumption)) | (with_reducible refine Below.drew ?_) | (with_reducible refine Below.laid ?_ _) | (with_reducible refine Below.setCell ?_ ?_ _) | (with_reducible refine size_of ?_) | (with_reducible refine Nat.le_succ_of_le ?_) | go_size))))).mono ?_
    rintro e we2 ⟨rfl, he2⟩
    go_wp2_with fail
    go_loopw [22, 23] (fun v i wr => ∃ k : Nat, k ≤ s.length ∧ i = .int .i64 k ∧ Below w.heap.size w wr ∧ wr.ownsRow w.heap.size 3 1 v k ((Venn.swapL (s.take k) x y).map (Value.int .i64))) (fun _ i _ => s.length - (intOf i).toNat)
    case atStart => exact ⟨0, Nat.zero_le _, rfl, by (repeat' (first | (with_reducible exact Below.refl _ _) | (with_reducible refine Below.next ?_ (by with_reducible assumption)) | (with_reducible refine Below.drew ?_) | (with_reducible refine Below.laid ?_ _) | (with_reducible refine Below.setCell ?_ ?_ _) | (with_reducible refine size_of ?_) | (with_reducible refine Nat.le_succ_of_le ?_) | go_size)), World.ownsRow_nil _ _ _ _⟩
    case round =>
      obtain ⟨k, hk, rfl, hb, hown⟩ := hrel
      obtain ⟨wo, rfl⟩ : ∃ wo : World, wo = wr := ⟨_, rfl⟩
      obtain ⟨A5, cp5, rfl⟩ := ownsRow_slice hown
      by_cases hlt : k < s.length
      · obtain ⟨ad, rfl, hcell0⟩ := HSR.out.int hlt
        have hcell := cell_keep hb hcell0
        have HSP := Lib.hid (swap_step s x y k hlt)
        generalize s[k] = q at hcell hcell0 HSP
        clear hcell0
        have hk1 : (k : Int) < (s.length : Int) := by omega
        have hk0 : (0 : Int) ≤ (k : Int) := by omega
        by_cases hqx : q = x
        · have e1 : (q == x) = true := by simpa using hqx
          have HQ := Lib.hid (show Venn.swapL (s.take (k + 1)) x y = Venn.swapL (s.take k) x y ++ [y] by rw [HSP.out, if_pos hqx])
          clear hqx
          go_upto_region 36 with (fail)
          go_wp2_with (at_builtin; refine wpList_app1 _ rfl _ _ rfl w.heap.size (.slice A5 k cp5) k _ rfl (hown.alloc _) wo.heap.size 1 y rfl ?hy1 (by omega) (by have := hb.size; simp; omega) ?_)
          try case hy1 => simp
          intro v' w7 hown' hg'
          go_wp2
          go_roundw
          case rel =>
            refine ⟨k + 1, by omega, by go_num, ?_, ?_⟩
            · have hbs := hb.size
              exact (hb.alloc hbs _).grown hg' (by simp; omega) (fun g h => (hown.lt g h).1)
            · rw [HQ.out, List.map_append]; exact hown'
          case measure => simp [intOf]; omega
        · have e1 : (q == x) = false := by simpa using hqx
          by_cases hqy : q = y
          · have e2 : (q == y) = true := by simpa using hqy
            have HQ := Lib.hid (show Venn.swapL (s.take (k + 1)) x y = Venn.swapL (s.take k) x y ++ [x] by rw [HSP.out, if_neg hqx, if_pos hqy])
            clear hqx hqy
            go_upto_region 36 with (fail)
            go_wp2_with (at_builtin; refine wpList_app1 _ rfl _ _ rfl w.heap.size (.slice A5 k cp5) k _ rfl (hown.alloc _) wo.heap.size 1 x rfl ?hy2 (by omega) (by have := hb.size; simp; omega) ?_)
            try case hy2 => simp
            intro v' w7 hown' hg'
            go_wp2
            go_roundw
            case rel =>
              refine ⟨k + 1, by omega, by go_num, ?_, ?_⟩
              · have hbs := hb.size
                exact (hb.alloc hbs _).grown hg' (by simp; omega) (fun g h => (hown.lt g h).1)
              · rw [HQ.out, List.map_append]; exact hown'
            case measure => simp [intOf]; omega
          · have e2 : (q == y) = false := by simpa using hqy
            have HQ := Lib.hid (show Venn.swapL (s.take (k + 1)) x y = Venn.swapL (s.take k) x y ++ [q] by rw [HSP.out, if_neg hqx, if_neg hqy])
            clear hqx hqy
            go_upto_region 36 with (fail)
            go_wp2_with (at_builtin; refine wpList_app1 _ rfl _ _ rfl w.heap.size (.slice A5 k cp5) k _ rfl (hown.alloc _) wo.heap.size 1 q rfl ?hy3 (by omega) (by have := hb.size; simp; omega) ?_)
            try case hy3 => simp
            intro v' w7 hown' hg'
            go_wp2
            go_roundw
            case rel =>
              refine ⟨k + 1, by omega, by go_num, ?_, ?_⟩
              · have hbs := hb.size
                exact (hb.alloc hbs _).grown hg' (by simp; omega) (fun g h => (hown.lt g h).1)
              · rw [HQ.out, List.map_append]; exact hown'
            case measure => simp [intOf]; omega
      · have hkt : k = s.length := by omega
        have HO := Lib.hid (show IsInts wo (.slice A5 k cp5) (Venn.swapL s x y) by
          have := IsInts.of_own hown
          rwa [hkt, List.take_length, ← hkt] at this)
        have HSL := Lib.hid (show k = (Venn.swapL s x y).length by rw [hkt]; simp [Venn.swapL])
        have hk1 : ¬ (k : Int) < (s.length : Int) := by omega
        clear HSL hown hkt
        go_wp2_with fail
        refine (alike_Swap _ s x y _ (HS.out.keep (by (repeat' (first | (with_reducible exact Below.refl _ _) | (with_reducible refine Below.next ?_ (by with_reducible assumption)) | (with_reducible refine Below.drew ?_) | (with_reducible refine Below.laid ?_ _) | (with_reducible refine Below.setCell ?_ ?_ _) | (with_reducible refine size_of ?_) | (with_reducible refine Nat.le_succ_of_le ?_) | go_size))))).mono ?_
        rintro e w3 ⟨z, rfl, hb3, hz⟩
        rw [HSW.out]
        rw [HSWL.out] at hz
        generalize Venn.swapL s x y = L at hz HO
        obtain ⟨ZA, zc, rfl⟩ := hz.slice
        go_wp2_with fail
        refine (vennsame_Error _ _ _ (HET.keep (by (repeat' (first | (with_reducible exact Below.refl _ _) | (with_reducible refine Below.next ?_ (by with_reducible assumption)) | (with_reducible refine Below.drew ?_) | (with_reducible refine Below.laid ?_ _) | (with_reducible refine Below.setCell ?_ ?_ _) | (with_reducible refine size_of ?_) | (with_reducible refine Nat.le_succ_of_le ?_) | go_size))))).mono ?_
        rintro e we9 ⟨rfl, he9⟩
        go_wp2_with fail
        refine (same_Ints _ _ L L _ (hz.keep (by (repeat' (first | (with_reducible exact Below.refl _ _) | (with_reducible refine Below.next ?_ (by with_reducible assumption)) | (with_reducible refine Below.drew ?_) | (with_reducible refine Below.laid ?_ _) | (with_reducible refine Below.setCell ?_ ?_ _) | (with_reducible refine size_of ?_) | (with_reducible refine Nat.le_succ_of_le ?_) | go_size)))) (HO.out.keep (by (repeat' (first | (with_reducible exact Below.refl _ _) | (with_reducible refine Below.next ?_ (by with_reducible assumption)) | (with_reducible refine Below.drew ?_) | (with_reducible refine Below.laid ?_ _) | (with_reducible refine Below.setCell ?_ ?_ _) | (with_reducible refine size_of ?_) | (with_reducible refine Nat.le_succ_of_le ?_) | go_size))))).mono ?_
        rintro e w4 ⟨rfl, hb4⟩
        rw [show (L == L) = true from beq_self_eq_true L]
        go_wp2
        go_ret
        exact ⟨rfl, by (repeat' (first | (with_reducible exact Below.refl _ _) | (with_reducible refine Below.next ?_ (by with_reducible assumption)) | (with_reducible refine Below.drew ?_) | (with_reducible refine Below.laid ?_ _) | (with_reducible refine Below.setCell ?_ ?_ _) | (with_reducible refine size_of ?_) | (with_reducible refine Nat.le_succ_of_le ?_) | go_size))⟩

end Go.Proofs.YtpcdiilgomfpbaaDoor
