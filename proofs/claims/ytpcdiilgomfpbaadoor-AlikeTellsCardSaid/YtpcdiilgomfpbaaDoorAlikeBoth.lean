/-
  vennlaw2.AlikeTells where both are terms. (Written by gen_aliketells.py.)
-/
import Derived.Test.YtpcdiilgomfpbaaDoorAlikeFlags
namespace Go.Proofs.YtpcdiilgomfpbaaDoor
open Go.ChangeShapes Go.WideShapes Go.ChangeAt Go.RowKit

set_option maxHeartbeats 8000000 in
set_option maxRecDepth 100000 in
theorem alikeTells_both1 (u v : Value) (s t : List Int) (x y : Int) (w : World) (hs : IsInts w u s) (ht : IsInts w v t) (HET : EtOk w) (hc : Venn.termChk s = 0) (hct : Venn.termChk t = 0) (hn : ¬ (Venn.nameOk x = true ∧ Venn.nameOk y = true)) :
    Calls Tryd.prog 9 #[u, v, .int .i64 x, .int .i64 y] w (Keeps (.bool true) w) := by
  obtain ⟨SA, sc, rfl, hs'⟩ := hs
  obtain ⟨TA, tc, rfl, ht'⟩ := ht
  have HS := Lib.hid (show IsInts w (.slice SA s.length sc) s from ⟨SA, sc, rfl, hs'⟩)
  have HT := Lib.hid (show IsInts w (.slice TA t.length tc) t from ⟨TA, tc, rfl, ht'⟩)
  have HSR := Lib.hid hs'.1
  clear hs' ht'
  have h12 : s.length ≤ 12 := (Venn.termChk_parts hc).2.1
  have hl0 : (0 : Int) < (s.length : Int) := by have := (Venn.termChk_parts hc).1; omega
  have hct2 : Venn.chk2 s t = 0 := by rw [Venn.chk2, if_pos hc]; exact hct
  have HC2 := Lib.hid hct2
  obtain ⟨SM, hSM⟩ : ∃ b, Venn.sameV s t = b := ⟨_, rfl⟩
  obtain ⟨PT, hPT⟩ : ∃ b, Venn.partV s t = b := ⟨_, rfl⟩
  obtain ⟨AP, hAP⟩ : ∃ b, Venn.apartV s t = b := ⟨_, rfl⟩
  have HSM := Lib.hid hSM
  have HPT := Lib.hid hPT
  have HAP := Lib.hid hAP
  have HFS := Lib.hid ((same_flags hct2).trans hSM)
  have HFP := Lib.hid ((part_flags hct2).trans hPT)
  have HFA := Lib.hid ((apart_flags hct2).trans hAP)
  have HCS := Lib.hid hc
  have HCT := Lib.hid hct
  clear hct2 hct hSM hPT hAP
  have HSW := Lib.hid (show Venn.swapChk s x y = 1 by rw [Venn.swapChk, if_pos hc, if_neg hn])
  have HSWL := Lib.hid (show (if Venn.swapChk s x y = 0 then Venn.swapL s x y else []) = [] by rw [HSW.out]; rfl)
  have hbad : x < 0 ∨ (¬ x < 0 ∧ 2 < x) ∨ (¬ x < 0 ∧ ¬ 2 < x ∧ y < 0) ∨ (¬ x < 0 ∧ ¬ 2 < x ∧ ¬ y < 0 ∧ 2 < y) := by simp [Venn.nameOk] at hn; omega
  clear hn hc
  go_enter Tryd.func9, Tryd.ntmps9
  go_wp2_with fail
  refine (ref_Term _ s _ (HS.out.keep (by (repeat' (first | (with_reducible exact Below.refl _ _) | (with_reducible refine Below.next ?_ (by with_reducible assumption)) | (with_reducible refine Below.drew ?_) | (with_reducible refine Below.laid ?_ _) | (with_reducible refine Below.setCell ?_ ?_ _) | (with_reducible refine size_of ?_) | (with_reducible refine Nat.le_succ_of_le ?_) | go_size))))).mono ?_
  rintro e w' ⟨rfl, rfl⟩
  rw [HCS.out]
  go_wp2_with fail
  refine (ref_Term _ t _ (HT.out.keep (by (repeat' (first | (with_reducible exact Below.refl _ _) | (with_reducible refine Below.next ?_ (by with_reducible assumption)) | (with_reducible refine Below.drew ?_) | (with_reducible refine Below.laid ?_ _) | (with_reducible refine Below.setCell ?_ ?_ _) | (with_reducible refine size_of ?_) | (with_reducible refine Nat.le_succ_of_le ?_) | go_size))))).mono ?_
  rintro e w' ⟨rfl, rfl⟩
  rw [HCT.out]
  go_wp2_with fail
  go_loopw [11, 12, 13, 14] (fun f1 f2 f3 i wr => ∃ k : Nat, k ≤ 8 ∧ i = .int .i64 k ∧ f1 = .bool (allTo (fun f => lb s f == lb t f) k) ∧ f2 = .bool (allTo (fun f => !(lb s f && !lb t f)) k) ∧ f3 = .bool (allTo (fun f => !(lb s f && lb t f)) k) ∧ Below w.heap.size w wr) (fun _ _ _ i _ => 8 - (intOf i).toNat)
  case atStart => exact ⟨0, by omega, rfl, rfl, rfl, rfl, by (repeat' (first | (with_reducible exact Below.refl _ _) | (with_reducible refine Below.next ?_ (by with_reducible assumption)) | (with_reducible refine Below.drew ?_) | (with_reducible refine Below.laid ?_ _) | (with_reducible refine Below.setCell ?_ ?_ _) | (with_reducible refine size_of ?_) | (with_reducible refine Nat.le_succ_of_le ?_) | go_size))⟩
  case round =>
    obtain ⟨k, hk, rfl, rfl, rfl, rfl, hb⟩ := hrel
    obtain ⟨wo, rfl⟩ : ∃ wo : World, wo = wr := ⟨_, rfl⟩
    by_cases hlt : k < 8
    · have hk1 : (k : Int) < 8 := by omega
      have HLS := Lib.hid (fun W h => ref_Lies (.slice SA s.length sc) s k W h HCS.out hlt)
      have HLT := Lib.hid (fun W h => ref_Lies (.slice TA t.length tc) t k W h HCT.out hlt)
      have HF1 := Lib.hid (show allTo (fun f => lb s f == lb t f) (k + 1) = (allTo (fun f => lb s f == lb t f) k && (lb s k == lb t k)) from rfl)
      have HF2 := Lib.hid (show allTo (fun f => !(lb s f && !lb t f)) (k + 1) = (allTo (fun f => !(lb s f && !lb t f)) k && !(lb s k && !lb t k)) from rfl)
      have HF3 := Lib.hid (show allTo (fun f => !(lb s f && lb t f)) (k + 1) = (allTo (fun f => !(lb s f && lb t f)) k && !(lb s k && lb t k)) from rfl)
      generalize allTo (fun f => lb s f == lb t f) k = F1 at HF1 ⊢
      generalize allTo (fun f => !(lb s f && !lb t f)) k = F2 at HF2 ⊢
      generalize allTo (fun f => !(lb s f && lb t f)) k = F3 at HF3 ⊢
      have hla : lb s k = Venn.bit (Venn.lies s k) 0 := rfl
      have hlb : lb t k = Venn.bit (Venn.lies t k) 0 := rfl
      rw [hla, hlb] at HF1 HF2 HF3
      clear hla hlb
      cases hA : Venn.bit (Venn.lies s k) 0 <;> cases hB : Venn.bit (Venn.lies t k) 0
      all_goals
        rw [hA, hB] at HF1 HF2 HF3
        have HAA := Lib.hid hA
        have HBB := Lib.hid hB
        clear hA hB
        go_wp2_with fail
        refine (HLS.out _ (HS.out.keep (by (repeat' (first | (with_reducible exact Below.refl _ _) | (with_reducible refine Below.next ?_ (by with_reducible assumption)) | (with_reducible refine Below.drew ?_) | (with_reducible refine Below.laid ?_ _) | (with_reducible refine Below.setCell ?_ ?_ _) | (with_reducible refine size_of ?_) | (with_reducible refine Nat.le_succ_of_le ?_) | go_size))))).mono ?_
        rintro e w5 ⟨rfl, hb5⟩
        rw [HAA.out]
        go_wp2_with fail
        refine (HLT.out _ (HT.out.keep (by (repeat' (first | (with_reducible exact Below.refl _ _) | (with_reducible refine Below.next ?_ (by with_reducible assumption)) | (with_reducible refine Below.drew ?_) | (with_reducible refine Below.laid ?_ _) | (with_reducible refine Below.setCell ?_ ?_ _) | (with_reducible refine size_of ?_) | (with_reducible refine Nat.le_succ_of_le ?_) | go_size))))).mono ?_
        rintro e w6 ⟨rfl, hb6⟩
        rw [HBB.out]
        go_wp2
        go_roundw
        case rel => exact ⟨k + 1, by omega, by go_num, by rw [HF1.out]; simp, by rw [HF2.out]; simp, by rw [HF3.out]; simp, by (repeat' (first | (with_reducible exact Below.refl _ _) | (with_reducible refine Below.next ?_ (by with_reducible assumption)) | (with_reducible refine Below.drew ?_) | (with_reducible refine Below.laid ?_ _) | (with_reducible refine Below.setCell ?_ ?_ _) | (with_reducible refine size_of ?_) | (with_reducible refine Nat.le_succ_of_le ?_) | go_size))⟩
        case measure => simp [intOf]; omega
    · have hk8 : k = 8 := by omega
      subst hk8
      rw [HFS.out, HFP.out, HFA.out]
      go_wp2_with fail
      refine (alike_Same _ _ s t _ (HS.out.keep (by (repeat' (first | (with_reducible exact Below.refl _ _) | (with_reducible refine Below.next ?_ (by with_reducible assumption)) | (with_reducible refine Below.drew ?_) | (with_reducible refine Below.laid ?_ _) | (with_reducible refine Below.setCell ?_ ?_ _) | (with_reducible refine size_of ?_) | (with_reducible refine Nat.le_succ_of_le ?_) | go_size)))) (HT.out.keep (by (repeat' (first | (with_reducible exact Below.refl _ _) | (with_reducible refine Below.next ?_ (by with_reducible assumption)) | (with_reducible refine Below.drew ?_) | (with_reducible refine Below.laid ?_ _) | (with_reducible refine Below.setCell ?_ ?_ _) | (with_reducible refine size_of ?_) | (with_reducible refine Nat.le_succ_of_le ?_) | go_size))))).mono ?_
      rintro e wa0 ⟨rfl, ha0⟩
      rw [HSM.out, HC2.out]
      go_wp2_with fail
      refine (vennsame_Error _ _ _ (HET.keep (by (repeat' (first | (with_reducible exact Below.refl _ _) | (with_reducible refine Below.next ?_ (by with_reducible assumption)) | (with_reducible refine Below.drew ?_) | (with_reducible refine Below.laid ?_ _) | (with_reducible refine Below.setCell ?_ ?_ _) | (with_reducible refine size_of ?_) | (with_reducible refine Nat.le_succ_of_le ?_) | go_size))))).mono ?_
      rintro e we0 ⟨rfl, he0⟩
      go_wp2_with fail
      refine (alike_Part _ _ s t _ (HS.out.keep (by (repeat' (first | (with_reducible exact Below.refl _ _) | (with_reducible refine Below.next ?_ (by with_reducible assumption)) | (with_reducible refine Below.drew ?_) | (with_reducible refine Below.laid ?_ _) | (with_reducible refine Below.setCell ?_ ?_ _) | (with_reducible refine size_of ?_) | (with_reducible refine Nat.le_succ_of_le ?_) | go_size)))) (HT.out.keep (by (repeat' (first | (with_reducible exact Below.refl _ _) | (with_reducible refine Below.next ?_ (by with_reducible assumption)) | (with_reducible refine Below.drew ?_) | (with_reducible refine Below.laid ?_ _) | (with_reducible refine Below.setCell ?_ ?_ _) | (with_reducible refine size_of ?_) | (with_reducible refine Nat.le_succ_of_le ?_) | go_size))))).mono ?_
      rintro e wa1 ⟨rfl, ha1⟩
      rw [HPT.out, HC2.out]
      go_wp2_with fail
      refine (vennsame_Error _ _ _ (HET.keep (by (repeat' (first | (with_reducible exact Below.refl _ _) | (with_reducible refine Below.next ?_ (by with_reducible assumption)) | (with_reducible refine Below.drew ?_) | (with_reducible refine Below.laid ?_ _) | (with_reducible refine Below.setCell ?_ ?_ _) | (with_reducible refine size_of ?_) | (with_reducible refine Nat.le_succ_of_le ?_) | go_size))))).mono ?_
      rintro e we1 ⟨rfl, he1⟩
      go_wp2_with fail
      refine (alike_Apart _ _ s t _ (HS.out.keep (by (repeat' (first | (with_reducible exact Below.refl _ _) | (with_reducible refine Below.next ?_ (by with_reducible assumption)) | (with_reducible refine Below.drew ?_) | (with_reducible refine Below.laid ?_ _) | (with_reducible refine Below.setCell ?_ ?_ _) | (with_reducible refine size_of ?_) | (with_reducible refine Nat.le_succ_of_le ?_) | go_size)))) (HT.out.keep (by (repeat' (first | (with_reducible exact Below.refl _ _) | (with_reducible refine Below.next ?_ (by with_reducible assumption)) | (with_reducible refine Below.drew ?_) | (with_reducible refine Below.laid ?_ _) | (with_reducible refine Below.setCell ?_ ?_ _) | (with_reducible refine size_of ?_) | (with_reducible refine Nat.le_succ_of_le ?_) | go_size))))).mono ?_
      rintro e wa2 ⟨rfl, ha2⟩
      rw [HAP.out, HC2.out]
      go_wp2_with fail
      refine (vennsame_Error _ _ _ (HET.keep (by (repeat' (first | (with_reducible exact Below.refl _ _) | (with_reducible refine Below.next ?_ (by with_reducible assumption)) | (with_reducible refine Below.drew ?_) | (with_reducible refine Below.laid ?_ _) | (with_reducible refine Below.setCell ?_ ?_ _) | (with_reducible refine size_of ?_) | (with_reducible refine Nat.le_succ_of_le ?_) | go_size))))).mono ?_
      rintro e we2 ⟨rfl, he2⟩
      rcases hbad with n1 | ⟨n1, n2⟩ | ⟨n1, n2, n3⟩ | ⟨n1, n2, n3, n4⟩
      all_goals
        go_wp2_with fail
        refine wp_loop_rounds 1 ?_
        rw [rounds_succ]
        go_wp2_with fail
        refine (alike_Swap _ s x y _ (HS.out.keep (by (repeat' (first | (with_reducible exact Below.refl _ _) | (with_reducible refine Below.next ?_ (by with_reducible assumption)) | (with_reducible refine Below.drew ?_) | (with_reducible refine Below.laid ?_ _) | (with_reducible refine Below.setCell ?_ ?_ _) | (with_reducible refine size_of ?_) | (with_reducible refine Nat.le_succ_of_le ?_) | go_size))))).mono ?_
        rintro e w3 ⟨z, rfl, hb3, hz⟩
        rw [HSW.out]
        rw [HSWL.out] at hz
        obtain ⟨ZA, zc, rfl⟩ := hz.slice
        go_wp2_with fail
        refine (vennsame_Error _ _ _ (HET.keep (by (repeat' (first | (with_reducible exact Below.refl _ _) | (with_reducible refine Below.next ?_ (by with_reducible assumption)) | (with_reducible refine Below.drew ?_) | (with_reducible refine Below.laid ?_ _) | (with_reducible refine Below.setCell ?_ ?_ _) | (with_reducible refine size_of ?_) | (with_reducible refine Nat.le_succ_of_le ?_) | go_size))))).mono ?_
        rintro e we9 ⟨rfl, he9⟩
        go_wp2_with fail
        refine (same_Ints _ _ [] [] _ (hz.keep (by (repeat' (first | (with_reducible exact Below.refl _ _) | (with_reducible refine Below.next ?_ (by with_reducible assumption)) | (with_reducible refine Below.drew ?_) | (with_reducible refine Below.laid ?_ _) | (with_reducible refine Below.setCell ?_ ?_ _) | (with_reducible refine size_of ?_) | (with_reducible refine Nat.le_succ_of_le ?_) | go_size)))) (IsIntsNil _)).mono ?_
        rintro e w4 ⟨rfl, hb4⟩
        go_wp2
        go_ret
        exact ⟨by simp, by (repeat' (first | (with_reducible exact Below.refl _ _) | (with_reducible refine Below.next ?_ (by with_reducible assumption)) | (with_reducible refine Below.drew ?_) | (with_reducible refine Below.laid ?_ _) | (with_reducible refine Below.setCell ?_ ?_ _) | (with_reducible refine size_of ?_) | (with_reducible refine Nat.le_succ_of_le ?_) | go_size))⟩
set_option maxHeartbeats 8000000 in
set_option maxRecDepth 100000 in
theorem alikeTells_both2 (u v : Value) (s t : List Int) (x y : Int) (w : World) (hs : IsInts w u s) (ht : IsInts w v t) (HET : EtOk w) (hc : Venn.termChk s = 0) (hct : Venn.termChk t = 0) (hn : Venn.nameOk x = true ∧ Venn.nameOk y = true) :
    Calls Tryd.prog 9 #[u, v, .int .i64 x, .int .i64 y] w (Keeps (.bool true) w) := by
  obtain ⟨SA, sc, rfl, hs'⟩ := hs
  obtain ⟨TA, tc, rfl, ht'⟩ := ht
  have HS := Lib.hid (show IsInts w (.slice SA s.length sc) s from ⟨SA, sc, rfl, hs'⟩)
  have HT := Lib.hid (show IsInts w (.slice TA t.length tc) t from ⟨TA, tc, rfl, ht'⟩)
  have HSR := Lib.hid hs'.1
  clear hs' ht'
  have h12 : s.length ≤ 12 := (Venn.termChk_parts hc).2.1
  have hl0 : (0 : Int) < (s.length : Int) := by have := (Venn.termChk_parts hc).1; omega
  have hct2 : Venn.chk2 s t = 0 := by rw [Venn.chk2, if_pos hc]; exact hct
  have HC2 := Lib.hid hct2
  obtain ⟨SM, hSM⟩ : ∃ b, Venn.sameV s t = b := ⟨_, rfl⟩
  obtain ⟨PT, hPT⟩ : ∃ b, Venn.partV s t = b := ⟨_, rfl⟩
  obtain ⟨AP, hAP⟩ : ∃ b, Venn.apartV s t = b := ⟨_, rfl⟩
  have HSM := Lib.hid hSM
  have HPT := Lib.hid hPT
  have HAP := Lib.hid hAP
  have HFS := Lib.hid ((same_flags hct2).trans hSM)
  have HFP := Lib.hid ((part_flags hct2).trans hPT)
  have HFA := Lib.hid ((apart_flags hct2).trans hAP)
  have HCS := Lib.hid hc
  have HCT := Lib.hid hct
  clear hct2 hct hSM hPT hAP
  have HSW := Lib.hid (show Venn.swapChk s x y = 0 by rw [Venn.swapChk, if_pos hc, if_pos hn])
  have HSWL := Lib.hid (show (if Venn.swapChk s x y = 0 then Venn.swapL s x y else []) = Venn.swapL s x y by rw [HSW.out]; rfl)
  have hgood : ¬ x < 0 ∧ ¬ 2 < x ∧ ¬ y < 0 ∧ ¬ 2 < y := by simp [Venn.nameOk] at hn; omega
  obtain ⟨n1, n2, n3, n4⟩ := hgood
  clear hn hc
  go_enter Tryd.func9, Tryd.ntmps9
  go_wp2_with fail
  refine (ref_Term _ s _ (HS.out.keep (by (repeat' (first | (with_reducible exact Below.refl _ _) | (with_reducible refine Below.next ?_ (by with_reducible assumption)) | (with_reducible refine Below.drew ?_) | (with_reducible refine Below.laid ?_ _) | (with_reducible refine Below.setCell ?_ ?_ _) | (with_reducible refine size_of ?_) | (with_reducible refine Nat.le_succ_of_le ?_) | go_size))))).mono ?_
  rintro e w' ⟨rfl, rfl⟩
  rw [HCS.out]
  go_wp2_with fail
  refine (ref_Term _ t _ (HT.out.keep (by (repeat' (first | (with_reducible exact Below.refl _ _) | (with_reducible refine Below.next ?_ (by with_reducible assumption)) | (with_reducible refine Below.drew ?_) | (with_reducible refine Below.laid ?_ _) | (with_reducible refine Below.setCell ?_ ?_ _) | (with_reducible refine size_of ?_) | (with_reducible refine Nat.le_succ_of_le ?_) | go_size))))).mono ?_
  rintro e w' ⟨rfl, rfl⟩
  rw [HCT.out]
  go_wp2_with fail
  go_loopw [11, 12, 13, 14] (fun f1 f2 f3 i wr => ∃ k : Nat, k ≤ 8 ∧ i = .int .i64 k ∧ f1 = .bool (allTo (fun f => lb s f == lb t f) k) ∧ f2 = .bool (allTo (fun f => !(lb s f && !lb t f)) k) ∧ f3 = .bool (allTo (fun f => !(lb s f && lb t f)) k) ∧ Below w.heap.size w wr) (fun _ _ _ i _ => 8 - (intOf i).toNat)
  case atStart => exact ⟨0, by omega, rfl, rfl, rfl, rfl, by (repeat' (first | (with_reducible exact Below.refl _ _) | (with_reducible refine Below.next ?_ (by with_reducible assumption)) | (with_reducible refine Below.drew ?_) | (with_reducible refine Below.laid ?_ _) | (with_reducible refine Below.setCell ?_ ?_ _) | (with_reducible refine size_of ?_) | (with_reducible refine Nat.le_succ_of_le ?_) | go_size))⟩
  case round =>
    obtain ⟨k, hk, rfl, rfl, rfl, rfl, hb⟩ := hrel
    obtain ⟨wo, rfl⟩ : ∃ wo : World, wo = wr := ⟨_, rfl⟩
    by_cases hlt : k < 8
    · have hk1 : (k : Int) < 8 := by omega
      have HLS := Lib.hid (fun W h => ref_Lies (.slice SA s.length sc) s k W h HCS.out hlt)
      have HLT := Lib.hid (fun W h => ref_Lies (.slice TA t.length tc) t k W h HCT.out hlt)
      have HF1 := Lib.hid (show allTo (fun f => lb s f == lb t f) (k + 1) = (allTo (fun f => lb s f == lb t f) k && (lb s k == lb t k)) from rfl)
      have HF2 := Lib.hid (show allTo (fun f => !(lb s f && !lb t f)) (k + 1) = (allTo (fun f => !(lb s f && !lb t f)) k && !(lb s k && !lb t k)) from rfl)
      have HF3 := Lib.hid (show allTo (fun f => !(lb s f && lb t f)) (k + 1) = (allTo (fun f => !(lb s f && lb t f)) k && !(lb s k && lb t k)) from rfl)
      generalize allTo (fun f => lb s f == lb t f) k = F1 at HF1 ⊢
      generalize allTo (fun f => !(lb s f && !lb t f)) k = F2 at HF2 ⊢
      generalize allTo (fun f => !(lb s f && lb t f)) k = F3 at HF3 ⊢
      have hla : lb s k = Venn.bit (Venn.lies s k) 0 := rfl
      have hlb : lb t k = Venn.bit (Venn.lies t k) 0 := rfl
      rw [hla, hlb] at HF1 HF2 HF3
      clear hla hlb
      cases hA : Venn.bit (Venn.lies s k) 0 <;> cases hB : Venn.bit (Venn.lies t k) 0
      all_goals
        rw [hA, hB] at HF1 HF2 HF3
        have HAA := Lib.hid hA
        have HBB := Lib.hid hB
        clear hA hB
        go_wp2_with fail
        refine (HLS.out _ (HS.out.keep (by (repeat' (first | (with_reducible exact Below.refl _ _) | (with_reducible refine Below.next ?_ (by with_reducible assumption)) | (with_reducible refine Below.drew ?_) | (with_reducible refine Below.laid ?_ _) | (with_reducible refine Below.setCell ?_ ?_ _) | (with_reducible refine size_of ?_) | (with_reducible refine Nat.le_succ_of_le ?_) | go_size))))).mono ?_
        rintro e w5 ⟨rfl, hb5⟩
        rw [HAA.out]
        go_wp2_with fail
        refine (HLT.out _ (HT.out.keep (by (repeat' (first | (with_reducible exact Below.refl _ _) | (with_reducible refine Below.next ?_ (by with_reducible assumption)) | (with_reducible refine Below.drew ?_) | (with_reducible refine Below.laid ?_ _) | (with_reducible refine Below.setCell ?_ ?_ _) | (with_reducible refine size_of ?_) | (with_reducible refine Nat.le_succ_of_le ?_) | go_size))))).mono ?_
        rintro e w6 ⟨rfl, hb6⟩
        rw [HBB.out]
        go_wp2
        go_roundw
        case rel => exact ⟨k + 1, by omega, by go_num, by rw [HF1.out]; simp, by rw [HF2.out]; simp, by rw [HF3.out]; simp, by (repeat' (first | (with_reducible exact Below.refl _ _) | (with_reducible refine Below.next ?_ (by with_reducible assumption)) | (with_reducible refine Below.drew ?_) | (with_reducible refine Below.laid ?_ _) | (with_reducible refine Below.setCell ?_ ?_ _) | (with_reducible refine size_of ?_) | (with_reducible refine Nat.le_succ_of_le ?_) | go_size))⟩
        case measure => simp [intOf]; omega
    · have hk8 : k = 8 := by omega
      subst hk8
      rw [HFS.out, HFP.out, HFA.out]
      go_wp2_with fail
      refine (alike_Same _ _ s t _ (HS.out.keep (by (repeat' (first | (with_reducible exact Below.refl _ _) | (with_reducible refine Below.next ?_ (by with_reducible assumption)) | (with_reducible refine Below.drew ?_) | (with_reducible refine Below.laid ?_ _) | (with_reducible refine Below.setCell ?_ ?_ _) | (with_reducible refine size_of ?_) | (with_reducible refine Nat.le_succ_of_le ?_) | go_size)))) (HT.out.keep (by (repeat' (first | (with_reducible exact Below.refl _ _) | (with_reducible refine Below.next ?_ (by with_reducible assumption)) | (with_reducible refine Below.drew ?_) | (with_reducible refine Below.laid ?_ _) | (with_reducible refine Below.setCell ?_ ?_ _) | (with_reducible refine size_of ?_) | (with_reducible refine Nat.le_succ_of_le ?_) | go_size))))).mono ?_
      rintro e wa0 ⟨rfl, ha0⟩
      rw [HSM.out, HC2.out]
      go_wp2_with fail
      refine (vennsame_Error _ _ _ (HET.keep (by (repeat' (first | (with_reducible exact Below.refl _ _) | (with_reducible refine Below.next ?_ (by with_reducible assumption)) | (with_reducible refine Below.drew ?_) | (with_reducible refine Below.laid ?_ _) | (with_reducible refine Below.setCell ?_ ?_ _) | (with_reducible refine size_of ?_) | (with_reducible refine Nat.le_succ_of_le ?_) | go_size))))).mono ?_
      rintro e we0 ⟨rfl, he0⟩
      go_wp2_with fail
      refine (alike_Part _ _ s t _ (HS.out.keep (by (repeat' (first | (with_reducible exact Below.refl _ _) | (with_reducible refine Below.next ?_ (by with_reducible assumption)) | (with_reducible refine Below.drew ?_) | (with_reducible refine Below.laid ?_ _) | (with_reducible refine Below.setCell ?_ ?_ _) | (with_reducible refine size_of ?_) | (with_reducible refine Nat.le_succ_of_le ?_) | go_size)))) (HT.out.keep (by (repeat' (first | (with_reducible exact Below.refl _ _) | (with_reducible refine Below.next ?_ (by with_reducible assumption)) | (with_reducible refine Below.drew ?_) | (with_reducible refine Below.laid ?_ _) | (with_reducible refine Below.setCell ?_ ?_ _) | (with_reducible refine size_of ?_) | (with_reducible refine Nat.le_succ_of_le ?_) | go_size))))).mono ?_
      rintro e wa1 ⟨rfl, ha1⟩
      rw [HPT.out, HC2.out]
      go_wp2_with fail
      refine (vennsame_Error _ _ _ (HET.keep (by (repeat' (first | (with_reducible exact Below.refl _ _) | (with_reducible refine Below.next ?_ (by with_reducible assumption)) | (with_reducible refine Below.drew ?_) | (with_reducible refine Below.laid ?_ _) | (with_reducible refine Below.setCell ?_ ?_ _) | (with_reducible refine size_of ?_) | (with_reducible refine Nat.le_succ_of_le ?_) | go_size))))).mono ?_
      rintro e we1 ⟨rfl, he1⟩
      go_wp2_with fail
      refine (alike_Apart _ _ s t _ (HS.out.keep (by (repeat' (first | (with_reducible exact Below.refl _ _) | (with_reducible refine Below.next ?_ (by with_reducible assumption)) | (with_reducible refine Below.drew ?_) | (with_reducible refine Below.laid ?_ _) | (with_reducible refine Below.setCell ?_ ?_ _) | (with_reducible refine size_of ?_) | (with_reducible refine Nat.le_succ_of_le ?_) | go_size)))) (HT.out.keep (by (repeat' (first | (with_reducible exact Below.refl _ _) | (with_reducible refine Below.next ?_ (by with_reducible assumption)) | (with_reducible refine Below.drew ?_) | (with_reducible refine Below.laid ?_ _) | (with_reducible refine Below.setCell ?_ ?_ _) | (with_reducible refine size_of ?_) | (with_reducible refine Nat.le_succ_of_le ?_) | go_size))))).mono ?_
      rintro e wa2 ⟨rfl, ha2⟩
      rw [HAP.out, HC2.out]
      go_wp2_with fail
      refine (vennsame_Error _ _ _ (HET.keep (by (repeat' (first | (with_reducible exact Below.refl _ _) | (with_reducible refine Below.next ?_ (by with_reducible assumption)) | (with_reducible refine Below.drew ?_) | (with_reducible refine Below.laid ?_ _) | (with_reducible refine Below.setCell ?_ ?_ _) | (with_reducible refine size_of ?_) | (with_reducible refine Nat.le_succ_of_le ?_) | go_size))))).mono ?_
      rintro e we2 ⟨rfl, he2⟩
      go_wp2_with fail
      go_loopw [22, 23] (fun v i wr => ∃ k : Nat, k ≤ s.length ∧ i = .int .i64 k ∧ Below w.heap.size w wr ∧ wr.ownsRow w.heap.size 3 1 v k ((Venn.swapL (s.take k) x y).map (Value.int .i64))) (fun _ i _ => s.length - (intOf i).toNat)
      case atStart => exact ⟨0, Nat.zero_le _, rfl, by (repeat' (first | (with_reducible exact Below.refl _ _) | (with_reducible refine Below.next ?_ (by with_reducible assumption)) | (with_reducible refine Below.drew ?_) | (with_reducible refine Below.laid ?_ _) | (with_reducible refine Below.setCell ?_ ?_ _) | (with_reducible refine size_of ?_) | (with_reducible refine Nat.le_succ_of_le ?_) | go_size)), World.ownsRow_nil _ _ _ _⟩
      case round =>
        obtain ⟨k, hk, rfl, hb, hown⟩ := hrel
        obtain ⟨wo, rfl⟩ : ∃ wo : World, wo = wr := ⟨_, rfl⟩
        obtain ⟨A5, cp5, rfl⟩ := ownsRow_slice hown
        by_cases hlt : k < s.length
        · obtain ⟨ad, rfl, hcell0⟩ := HSR.out.int hlt
          have hcell := cell_keep hb hcell0
          have HSP := Lib.hid (swap_step s x y k hlt)
          generalize s[k] = q at hcell hcell0 HSP
          clear hcell0
          have hk1 : (k : Int) < (s.length : Int) := by omega
          have hk0 : (0 : Int) ≤ (k : Int) := by omega
          by_cases hqx : q = x
          · have e1 : (q == x) = true := by simpa using hqx
            have HQ := Lib.hid (show Venn.swapL (s.take (k + 1)) x y = Venn.swapL (s.take k) x y ++ [y] by rw [HSP.out, if_pos hqx])
            clear hqx
            go_upto_region 36 with (fail)
            go_wp2_with (at_builtin; refine wpList_app1 _ rfl _ _ rfl w.heap.size (.slice A5 k cp5) k _ rfl (hown.alloc _) wo.heap.size 1 y rfl ?hy1 (by omega) (by have := hb.size; simp; omega) ?_)
            try case hy1 => simp
            intro v' w7 hown' hg'
            go_wp2
            go_roundw
            case rel =>
              refine ⟨k + 1, by omega, by go_num, ?_, ?_⟩
              · have hbs := hb.size
                exact (hb.alloc hbs _).grown hg' (by simp; omega) (fun g h => (hown.lt g h).1)
              · rw [HQ.out, List.map_append]; exact hown'
            case measure => simp [intOf]; omega
          · have e1 : (q == x) = false := by simpa using hqx
            by_cases hqy : q = y
            · have e2 : (q == y) = true := by simpa using hqy
              have HQ := Lib.hid (show Venn.swapL (s.take (k + 1)) x y = Venn.swapL (s.take k) x y ++ [x] by rw [HSP.out, if_neg hqx, if_pos hqy])
              clear hqx hqy
              go_upto_region 36 with (fail)
              go_wp2_with (at_builtin; refine wpList_app1 _ rfl _ _ rfl w.heap.size (.slice A5 k cp5) k _ rfl (hown.alloc _) wo.heap.size 1 x rfl ?hy2 (by omega) (by have := hb.size; simp; omega) ?_)
              try case hy2 => simp
              intro v' w7 hown' hg'
              go_wp2
              go_roundw
              case rel =>
                refine ⟨k + 1, by omega, by go_num, ?_, ?_⟩
                · have hbs := hb.size
                  exact (hb.alloc hbs _).grown hg' (by simp; omega) (fun g h => (hown.lt g h).1)
                · rw [HQ.out, List.map_append]; exact hown'
              case measure => simp [intOf]; omega
            · have e2 : (q == y) = false := by simpa using hqy
              have HQ := Lib.hid (show Venn.swapL (s.take (k + 1)) x y = Venn.swapL (s.take k) x y ++ [q] by rw [HSP.out, if_neg hqx, if_neg hqy])
              clear hqx hqy
              go_upto_region 36 with (fail)
              go_wp2_with (at_builtin; refine wpList_app1 _ rfl _ _ rfl w.heap.size (.slice A5 k cp5) k _ rfl (hown.alloc _) wo.heap.size 1 q rfl ?hy3 (by omega) (by have := hb.size; simp; omega) ?_)
              try case hy3 => simp
              intro v' w7 hown' hg'
              go_wp2
              go_roundw
              case rel =>
                refine ⟨k + 1, by omega, by go_num, ?_, ?_⟩
                · have hbs := hb.size
                  exact (hb.alloc hbs _).grown hg' (by simp; omega) (fun g h => (hown.lt g h).1)
                · rw [HQ.out, List.map_append]; exact hown'
              case measure => simp [intOf]; omega
        · have hkt : k = s.length := by omega
          have HO := Lib.hid (show IsInts wo (.slice A5 k cp5) (Venn.swapL s x y) by
            have := IsInts.of_own hown
            rwa [hkt, List.take_length, ← hkt] at this)
          have HSL := Lib.hid (show k = (Venn.swapL s x y).length by rw [hkt]; simp [Venn.swapL])
          have hk1 : ¬ (k : Int) < (s.length : Int) := by omega
          clear HSL hown hkt
          go_wp2_with fail
          refine (alike_Swap _ s x y _ (HS.out.keep (by (repeat' (first | (with_reducible exact Below.refl _ _) | (with_reducible refine Below.next ?_ (by with_reducible assumption)) | (with_reducible refine Below.drew ?_) | (with_reducible refine Below.laid ?_ _) | (with_reducible refine Below.setCell ?_ ?_ _) | (with_reducible refine size_of ?_) | (with_reducible refine Nat.le_succ_of_le ?_) | go_size))))).mono ?_
          rintro e w3 ⟨z, rfl, hb3, hz⟩
          rw [HSW.out]
          rw [HSWL.out] at hz
          generalize Venn.swapL s x y = L at hz HO
          obtain ⟨ZA, zc, rfl⟩ := hz.slice
          go_wp2_with fail
          refine (vennsame_Error _ _ _ (HET.keep (by (repeat' (first | (with_reducible exact Below.refl _ _) | (with_reducible refine Below.next ?_ (by with_reducible assumption)) | (with_reducible refine Below.drew ?_) | (with_reducible refine Below.laid ?_ _) | (with_reducible refine Below.setCell ?_ ?_ _) | (with_reducible refine size_of ?_) | (with_reducible refine Nat.le_succ_of_le ?_) | go_size))))).mono ?_
          rintro e we9 ⟨rfl, he9⟩
          go_wp2_with fail
          refine (same_Ints _ _ L L _ (hz.keep (by (repeat' (first | (with_reducible exact Below.refl _ _) | (with_reducible refine Below.next ?_ (by with_reducible assumption)) | (with_reducible refine Below.drew ?_) | (with_reducible refine Below.laid ?_ _) | (with_reducible refine Below.setCell ?_ ?_ _) | (with_reducible refine size_of ?_) | (with_reducible refine Nat.le_succ_of_le ?_) | go_size)))) (HO.out.keep (by (repeat' (first | (with_reducible exact Below.refl _ _) | (with_reducible refine Below.next ?_ (by with_reducible assumption)) | (with_reducible refine Below.drew ?_) | (with_reducible refine Below.laid ?_ _) | (with_reducible refine Below.setCell ?_ ?_ _) | (with_reducible refine size_of ?_) | (with_reducible refine Nat.le_succ_of_le ?_) | go_size))))).mono ?_
          rintro e w4 ⟨rfl, hb4⟩
          rw [show (L == L) = true from beq_self_eq_true L]
          go_wp2
          go_ret
          exact ⟨rfl, by (repeat' (first | (with_reducible exact Below.refl _ _) | (with_reducible refine Below.next ?_ (by with_reducible assumption)) | (with_reducible refine Below.drew ?_) | (with_reducible refine Below.laid ?_ _) | (with_reducible refine Below.setCell ?_ ?_ _) | (with_reducible refine size_of ?_) | (with_reducible refine Nat.le_succ_of_le ?_) | go_size))⟩

end Go.Proofs.YtpcdiilgomfpbaaDoor
