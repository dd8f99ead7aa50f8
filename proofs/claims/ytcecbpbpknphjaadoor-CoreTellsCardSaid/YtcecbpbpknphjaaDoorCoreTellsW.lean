/-
  THE WALK of vennlaw2.CoreTells.
-/
import Derived.Test.YtcecbpbpknphjaaDoorRefCore
import Derived.Test.YtcecbpbpknphjaaDoorCoreOf
import Derived.Test.YtcecbpbpknphjaaDoorSame
import Derived.Test.YtcecbpbpknphjaaDoorLawF
namespace Go.Proofs.YtcecbpbpknphjaaDoor
open Go.RowKit

set_option maxHeartbeats 4000000 in
set_option maxRecDepth 100000 in
theorem coreTells_walk (v : Value) (ls : List Venn.Form) (u : Int) (w : World) (hl : IsForms w v ls) (hk : KindsOk w) (het : EtOk w) :
    Calls Tryd.prog 8 #[v, .int .i64 u] w (Keeps (.bool true) w) := by
  obtain ⟨L, cL, rfl⟩ := forms_slice hl
  have HL := Lib.hid hl
  have HK := Lib.hid hk
  have HET := Lib.hid het
  clear hl hk het
  by_cases hz : Venn.coreChk ls u = 0
  · obtain ⟨_, h6, hfs, hu⟩ := Venn.coreChk_parts hz
    have hff := Venn.formsChk_mem hfs
    have HX := Lib.hid hz
    have HOP := Lib.hid (fun W h => ref_Open (.slice L ls.length cL) ls u W h hff hu)
    have HRC := Lib.hid (fun W h => ref_Core (.slice L ls.length cL) ls u W h hff h6 hu)
    cases ho : Venn.openV ls u
    · rw [ho] at HOP
      have HVO := Lib.hid (show openVv ls u = .tuple #[.bool false, errV 0] by rw [openVv_ok hz ho]; rfl)
      have he : Venn.coreErr ls u = 0 := by rw [Venn.coreErr, if_pos hz, ho]; rfl
      have HE := Lib.hid he
      have HCV := Lib.hid (show Venn.coreV ls u = (Venn.coreGo ls u ls.length).2 by rw [Venn.coreV, if_pos he])
      clear hz hfs hff hu h6 ho he
      go_enter Tryd.func8, Tryd.ntmps8
      go_wp2_with fail
      refine (ref_Forms _ ls u _ (HL.out.keep (by (repeat' (first | (with_reducible exact Below.refl _ _) | (with_reducible assumption) | (with_reducible refine Below.next ?_ (by with_reducible assumption)) | (with_reducible refine Below.drew ?_) | (with_reducible refine Below.laid ?_ _) | (with_reducible refine Below.setCell ?_ ?_ _) | (with_reducible refine size_of ?_) | (with_reducible refine Nat.le_succ_of_le ?_) | go_size))))).mono ?_
      rintro e w1 ⟨rfl, hb1⟩
      rw [HX.out]
      have hq1 : Below w.heap.size w w1 := by (repeat' (first | (with_reducible exact Below.refl _ _) | (with_reducible assumption) | (with_reducible refine Below.next ?_ (by with_reducible assumption)) | (with_reducible refine Below.drew ?_) | (with_reducible refine Below.laid ?_ _) | (with_reducible refine Below.setCell ?_ ?_ _) | (with_reducible refine size_of ?_) | (with_reducible refine Nat.le_succ_of_le ?_) | go_size))
      have hw1 : Below w.heap.size w w1 := hq1
      go_wp2_with fail
      refine (HOP.out _ (HL.out.keep (by (repeat' (first | (with_reducible exact Below.refl _ _) | (with_reducible assumption) | (with_reducible refine Below.next ?_ (by with_reducible assumption)) | (with_reducible refine Below.drew ?_) | (with_reducible refine Below.laid ?_ _) | (with_reducible refine Below.setCell ?_ ?_ _) | (with_reducible refine size_of ?_) | (with_reducible refine Nat.le_succ_of_le ?_) | go_size))))).mono ?_
      rintro e w2 ⟨rfl, hb2⟩
      have hq2 : Below w1.heap.size w1 w2 := by (repeat' (first | (with_reducible exact Below.refl _ _) | (with_reducible assumption) | (with_reducible refine Below.next ?_ (by with_reducible assumption)) | (with_reducible refine Below.drew ?_) | (with_reducible refine Below.laid ?_ _) | (with_reducible refine Below.setCell ?_ ?_ _) | (with_reducible refine size_of ?_) | (with_reducible refine Nat.le_succ_of_le ?_) | go_size))
      have hw2 : Below w.heap.size w w2 := Below.next hw1 hq2
      go_wp2_with fail
      refine (core_Open _ ls u _ (HL.out.keep (by (repeat' (first | (with_reducible exact Below.refl _ _) | (with_reducible assumption) | (with_reducible refine Below.next ?_ (by with_reducible assumption)) | (with_reducible refine Below.drew ?_) | (with_reducible refine Below.laid ?_ _) | (with_reducible refine Below.setCell ?_ ?_ _) | (with_reducible refine size_of ?_) | (with_reducible refine Nat.le_succ_of_le ?_) | go_size)))) (HK.out.keep (by (repeat' (first | (with_reducible exact Below.refl _ _) | (with_reducible assumption) | (with_reducible refine Below.next ?_ (by with_reducible assumption)) | (with_reducible refine Below.drew ?_) | (with_reducible refine Below.laid ?_ _) | (with_reducible refine Below.setCell ?_ ?_ _) | (with_reducible refine size_of ?_) | (with_reducible refine Nat.le_succ_of_le ?_) | go_size))))).mono ?_
      rintro e w3 ⟨rfl, hb3⟩
      rw [HVO.out]
      have hq3 : Below w2.heap.size w2 w3 := by (repeat' (first | (with_reducible exact Below.refl _ _) | (with_reducible assumption) | (with_reducible refine Below.next ?_ (by with_reducible assumption)) | (with_reducible refine Below.drew ?_) | (with_reducible refine Below.laid ?_ _) | (with_reducible refine Below.setCell ?_ ?_ _) | (with_reducible refine size_of ?_) | (with_reducible refine Nat.le_succ_of_le ?_) | go_size))
      have hw3 : Below w.heap.size w w3 := Below.next hw2 hq3
      go_wp2_with fail
      refine (vennsame_Error _ _ _ (HET.out.keep (by (repeat' (first | (with_reducible exact Below.refl _ _) | (with_reducible assumption) | (with_reducible refine Below.next ?_ (by with_reducible assumption)) | (with_reducible refine Below.drew ?_) | (with_reducible refine Below.laid ?_ _) | (with_reducible refine Below.setCell ?_ ?_ _) | (with_reducible refine size_of ?_) | (with_reducible refine Nat.le_succ_of_le ?_) | go_size))))).mono ?_
      rintro e w4 ⟨rfl, hb4⟩
      have hq4 : Below w3.heap.size w3 w4 := by (repeat' (first | (with_reducible exact Below.refl _ _) | (with_reducible assumption) | (with_reducible refine Below.next ?_ (by with_reducible assumption)) | (with_reducible refine Below.drew ?_) | (with_reducible refine Below.laid ?_ _) | (with_reducible refine Below.setCell ?_ ?_ _) | (with_reducible refine size_of ?_) | (with_reducible refine Nat.le_succ_of_le ?_) | go_size))
      have hw4 : Below w.heap.size w w4 := Below.next hw3 hq4
      go_wp2_with fail
      refine (HRC.out _ (HL.out.keep (by (repeat' (first | (with_reducible exact Below.refl _ _) | (with_reducible assumption) | (with_reducible refine Below.next ?_ (by with_reducible assumption)) | (with_reducible refine Below.drew ?_) | (with_reducible refine Below.laid ?_ _) | (with_reducible refine Below.setCell ?_ ?_ _) | (with_reducible refine size_of ?_) | (with_reducible refine Nat.le_succ_of_le ?_) | go_size))))).mono ?_
      rintro e w5 ⟨o, rfl, hb5, ho5⟩
      obtain ⟨O1, k1, rfl⟩ := ho5.slice
      have HO5 := Lib.hid ho5
      have hw5 : Below w.heap.size w w5 := Below.next hw4 hb5
      go_wp2_with fail
      refine (core_Of _ ls u _ (HL.out.keep (by (repeat' (first | (with_reducible exact Below.refl _ _) | (with_reducible assumption) | (with_reducible refine Below.next ?_ (by with_reducible assumption)) | (with_reducible refine Below.drew ?_) | (with_reducible refine Below.laid ?_ _) | (with_reducible refine Below.setCell ?_ ?_ _) | (with_reducible refine size_of ?_) | (with_reducible refine Nat.le_succ_of_le ?_) | go_size)))) (HK.out.keep (by (repeat' (first | (with_reducible exact Below.refl _ _) | (with_reducible assumption) | (with_reducible refine Below.next ?_ (by with_reducible assumption)) | (with_reducible refine Below.drew ?_) | (with_reducible refine Below.laid ?_ _) | (with_reducible refine Below.setCell ?_ ?_ _) | (with_reducible refine size_of ?_) | (with_reducible refine Nat.le_succ_of_le ?_) | go_size))))).mono ?_
      rintro e w6 ⟨x, rfl, hb6, hx6⟩
      rw [HCV.out] at hx6
      obtain ⟨O2, k2, rfl⟩ := hx6.slice
      have HX6 := Lib.hid hx6
      have hw6 : Below w.heap.size w w6 := Below.next hw5 hb6
      rw [HE.out]
      clear ho5 hx6
      go_wp2_with fail
      refine (vennsame_Error _ _ _ (HET.out.keep (by (repeat' (first | (with_reducible exact Below.refl _ _) | (with_reducible assumption) | (with_reducible refine Below.next ?_ (by with_reducible assumption)) | (with_reducible refine Below.drew ?_) | (with_reducible refine Below.laid ?_ _) | (with_reducible refine Below.setCell ?_ ?_ _) | (with_reducible refine size_of ?_) | (with_reducible refine Nat.le_succ_of_le ?_) | go_size))))).mono ?_
      rintro e w7 ⟨rfl, hb7⟩
      go_wp2_with fail
      refine (same_Ints _ _ _ _ _ (HX6.out.keep hb7) (HO5.out.keep (Below.next hb6 hb7))).mono ?_
      rintro e w8 ⟨rfl, hb8⟩
      rw [beq_self_eq_true]
      go_wp2
      go_ret
      exact ⟨by simp, Below.next (Below.next hw6 hb7) hb8⟩
    · rw [ho] at HOP
      have HVO := Lib.hid (show openVv ls u = .tuple #[.bool true, errV 0] by rw [openVv_ok hz ho]; rfl)
      have he : Venn.coreErr ls u = 8 := by rw [Venn.coreErr, if_pos hz, ho]; rfl
      have HE := Lib.hid he
      have HCV := Lib.hid (show Venn.coreV ls u = [] by rw [Venn.coreV, if_neg (by rw [he]; decide)])
      clear hz hfs hff hu h6 ho he
      go_enter Tryd.func8, Tryd.ntmps8
      go_wp2_with fail
      refine (ref_Forms _ ls u _ (HL.out.keep (by (repeat' (first | (with_reducible exact Below.refl _ _) | (with_reducible assumption) | (with_reducible refine Below.next ?_ (by with_reducible assumption)) | (with_reducible refine Below.drew ?_) | (with_reducible refine Below.laid ?_ _) | (with_reducible refine Below.setCell ?_ ?_ _) | (with_reducible refine size_of ?_) | (with_reducible refine Nat.le_succ_of_le ?_) | go_size))))).mono ?_
      rintro e w1 ⟨rfl, hb1⟩
      rw [HX.out]
      have hq1 : Below w.heap.size w w1 := by (repeat' (first | (with_reducible exact Below.refl _ _) | (with_reducible assumption) | (with_reducible refine Below.next ?_ (by with_reducible assumption)) | (with_reducible refine Below.drew ?_) | (with_reducible refine Below.laid ?_ _) | (with_reducible refine Below.setCell ?_ ?_ _) | (with_reducible refine size_of ?_) | (with_reducible refine Nat.le_succ_of_le ?_) | go_size))
      have hw1 : Below w.heap.size w w1 := hq1
      go_wp2_with fail
      refine (HOP.out _ (HL.out.keep (by (repeat' (first | (with_reducible exact Below.refl _ _) | (with_reducible assumption) | (with_reducible refine Below.next ?_ (by with_reducible assumption)) | (with_reducible refine Below.drew ?_) | (with_reducible refine Below.laid ?_ _) | (with_reducible refine Below.setCell ?_ ?_ _) | (with_reducible refine size_of ?_) | (with_reducible refine Nat.le_succ_of_le ?_) | go_size))))).mono ?_
      rintro e w2 ⟨rfl, hb2⟩
      have hq2 : Below w1.heap.size w1 w2 := by (repeat' (first | (with_reducible exact Below.refl _ _) | (with_reducible assumption) | (with_reducible refine Below.next ?_ (by with_reducible assumption)) | (with_reducible refine Below.drew ?_) | (with_reducible refine Below.laid ?_ _) | (with_reducible refine Below.setCell ?_ ?_ _) | (with_reducible refine size_of ?_) | (with_reducible refine Nat.le_succ_of_le ?_) | go_size))
      have hw2 : Below w.heap.size w w2 := Below.next hw1 hq2
      go_wp2_with fail
      refine (core_Open _ ls u _ (HL.out.keep (by (repeat' (first | (with_reducible exact Below.refl _ _) | (with_reducible assumption) | (with_reducible refine Below.next ?_ (by with_reducible assumption)) | (with_reducible refine Below.drew ?_) | (with_reducible refine Below.laid ?_ _) | (with_reducible refine Below.setCell ?_ ?_ _) | (with_reducible refine size_of ?_) | (with_reducible refine Nat.le_succ_of_le ?_) | go_size)))) (HK.out.keep (by (repeat' (first | (with_reducible exact Below.refl _ _) | (with_reducible assumption) | (with_reducible refine Below.next ?_ (by with_reducible assumption)) | (with_reducible refine Below.drew ?_) | (with_reducible refine Below.laid ?_ _) | (with_reducible refine Below.setCell ?_ ?_ _) | (with_reducible refine size_of ?_) | (with_reducible refine Nat.le_succ_of_le ?_) | go_size))))).mono ?_
      rintro e w3 ⟨rfl, hb3⟩
      rw [HVO.out]
      have hq3 : Below w2.heap.size w2 w3 := by (repeat' (first | (with_reducible exact Below.refl _ _) | (with_reducible assumption) | (with_reducible refine Below.next ?_ (by with_reducible assumption)) | (with_reducible refine Below.drew ?_) | (with_reducible refine Below.laid ?_ _) | (with_reducible refine Below.setCell ?_ ?_ _) | (with_reducible refine size_of ?_) | (with_reducible refine Nat.le_succ_of_le ?_) | go_size))
      have hw3 : Below w.heap.size w w3 := Below.next hw2 hq3
      go_wp2_with fail
      refine (vennsame_Error _ _ _ (HET.out.keep (by (repeat' (first | (with_reducible exact Below.refl _ _) | (with_reducible assumption) | (with_reducible refine Below.next ?_ (by with_reducible assumption)) | (with_reducible refine Below.drew ?_) | (with_reducible refine Below.laid ?_ _) | (with_reducible refine Below.setCell ?_ ?_ _) | (with_reducible refine size_of ?_) | (with_reducible refine Nat.le_succ_of_le ?_) | go_size))))).mono ?_
      rintro e w4 ⟨rfl, hb4⟩
      have hq4 : Below w3.heap.size w3 w4 := by (repeat' (first | (with_reducible exact Below.refl _ _) | (with_reducible assumption) | (with_reducible refine Below.next ?_ (by with_reducible assumption)) | (with_reducible refine Below.drew ?_) | (with_reducible refine Below.laid ?_ _) | (with_reducible refine Below.setCell ?_ ?_ _) | (with_reducible refine size_of ?_) | (with_reducible refine Nat.le_succ_of_le ?_) | go_size))
      have hw4 : Below w.heap.size w w4 := Below.next hw3 hq4
      go_wp2_with fail
      refine (core_Of _ ls u _ (HL.out.keep (by (repeat' (first | (with_reducible exact Below.refl _ _) | (with_reducible assumption) | (with_reducible refine Below.next ?_ (by with_reducible assumption)) | (with_reducible refine Below.drew ?_) | (with_reducible refine Below.laid ?_ _) | (with_reducible refine Below.setCell ?_ ?_ _) | (with_reducible refine size_of ?_) | (with_reducible refine Nat.le_succ_of_le ?_) | go_size)))) (HK.out.keep (by (repeat' (first | (with_reducible exact Below.refl _ _) | (with_reducible assumption) | (with_reducible refine Below.next ?_ (by with_reducible assumption)) | (with_reducible refine Below.drew ?_) | (with_reducible refine Below.laid ?_ _) | (with_reducible refine Below.setCell ?_ ?_ _) | (with_reducible refine size_of ?_) | (with_reducible refine Nat.le_succ_of_le ?_) | go_size))))).mono ?_
      rintro e w6 ⟨x, rfl, hb6, hx6⟩
      rw [HCV.out] at hx6
      obtain ⟨O2, k2, rfl⟩ := hx6.slice
      have HX6 := Lib.hid hx6
      rw [HE.out]
      clear hx6
      go_wp2_with fail
      refine (vennsame_Error _ _ _ (HET.out.keep (by (repeat' (first | (with_reducible exact Below.refl _ _) | (with_reducible assumption) | (with_reducible refine Below.next ?_ (by with_reducible assumption)) | (with_reducible refine Below.drew ?_) | (with_reducible refine Below.laid ?_ _) | (with_reducible refine Below.setCell ?_ ?_ _) | (with_reducible refine size_of ?_) | (with_reducible refine Nat.le_succ_of_le ?_) | go_size))))).mono ?_
      rintro e w7 ⟨rfl, hb7⟩
      go_wp2_with fail
      refine (same_Ints _ _ [] [] _ (HX6.out.keep hb7) (IsIntsNil _)).mono ?_
      rintro e w8 ⟨rfl, hb8⟩
      rw [beq_self_eq_true]
      go_wp2
      go_ret
      exact ⟨by simp, Below.next (Below.next (Below.next hw4 hb6) hb7) hb8⟩
  · have HVO := Lib.hid (show openVv ls u = .tuple #[.bool false, errV (Venn.coreChk ls u)] by rw [openVv, Venn.openR, if_neg hz])
    have he : Venn.coreErr ls u = Venn.coreChk ls u := if_neg hz
    have HE := Lib.hid he
    have HCV := Lib.hid (show Venn.coreV ls u = [] by rw [Venn.coreV, if_neg (by rw [he]; exact hz)])
    have HRF := Lib.hid (fun W h => ref_Forms (.slice L ls.length cL) ls u W h)
    have hq : (Venn.coreChk ls u == 0) = false := by simpa using hz
    clear hz he
    generalize Venn.coreChk ls u = E at HVO HE HRF hq
    go_enter Tryd.func8, Tryd.ntmps8
    go_wp2_with fail
    refine (HRF.out _ (HL.out.keep (by (repeat' (first | (with_reducible exact Below.refl _ _) | (with_reducible assumption) | (with_reducible refine Below.next ?_ (by with_reducible assumption)) | (with_reducible refine Below.drew ?_) | (with_reducible refine Below.laid ?_ _) | (with_reducible refine Below.setCell ?_ ?_ _) | (with_reducible refine size_of ?_) | (with_reducible refine Nat.le_succ_of_le ?_) | go_size))))).mono ?_
    rintro e w1 ⟨rfl, hb1⟩
    have hq1 : Below w.heap.size w w1 := by (repeat' (first | (with_reducible exact Below.refl _ _) | (with_reducible assumption) | (with_reducible refine Below.next ?_ (by with_reducible assumption)) | (with_reducible refine Below.drew ?_) | (with_reducible refine Below.laid ?_ _) | (with_reducible refine Below.setCell ?_ ?_ _) | (with_reducible refine size_of ?_) | (with_reducible refine Nat.le_succ_of_le ?_) | go_size))
    have hw1 : Below w.heap.size w w1 := hq1
    go_wp2_with fail
    refine (core_Open _ ls u _ (HL.out.keep (by (repeat' (first | (with_reducible exact Below.refl _ _) | (with_reducible assumption) | (with_reducible refine Below.next ?_ (by with_reducible assumption)) | (with_reducible refine Below.drew ?_) | (with_reducible refine Below.laid ?_ _) | (with_reducible refine Below.setCell ?_ ?_ _) | (with_reducible refine size_of ?_) | (with_reducible refine Nat.le_succ_of_le ?_) | go_size)))) (HK.out.keep (by (repeat' (first | (with_reducible exact Below.refl _ _) | (with_reducible assumption) | (with_reducible refine Below.next ?_ (by with_reducible assumption)) | (with_reducible refine Below.drew ?_) | (with_reducible refine Below.laid ?_ _) | (with_reducible refine Below.setCell ?_ ?_ _) | (with_reducible refine size_of ?_) | (with_reducible refine Nat.le_succ_of_le ?_) | go_size))))).mono ?_
    rintro e w2 ⟨rfl, hb2⟩
    rw [HVO.out]
    have hq2 : Below w1.heap.size w1 w2 := by (repeat' (first | (with_reducible exact Below.refl _ _) | (with_reducible assumption) | (with_reducible refine Below.next ?_ (by with_reducible assumption)) | (with_reducible refine Below.drew ?_) | (with_reducible refine Below.laid ?_ _) | (with_reducible refine Below.setCell ?_ ?_ _) | (with_reducible refine size_of ?_) | (with_reducible refine Nat.le_succ_of_le ?_) | go_size))
    have hw2 : Below w.heap.size w w2 := Below.next hw1 hq2
    go_wp2_with fail
    refine (vennsame_Error _ _ _ (HET.out.keep (by (repeat' (first | (with_reducible exact Below.refl _ _) | (with_reducible assumption) | (with_reducible refine Below.next ?_ (by with_reducible assumption)) | (with_reducible refine Below.drew ?_) | (with_reducible refine Below.laid ?_ _) | (with_reducible refine Below.setCell ?_ ?_ _) | (with_reducible refine size_of ?_) | (with_reducible refine Nat.le_succ_of_le ?_) | go_size))))).mono ?_
    rintro e w3 ⟨rfl, hb3⟩
    have hq3 : Below w2.heap.size w2 w3 := by (repeat' (first | (with_reducible exact Below.refl _ _) | (with_reducible assumption) | (with_reducible refine Below.next ?_ (by with_reducible assumption)) | (with_reducible refine Below.drew ?_) | (with_reducible refine Below.laid ?_ _) | (with_reducible refine Below.setCell ?_ ?_ _) | (with_reducible refine size_of ?_) | (with_reducible refine Nat.le_succ_of_le ?_) | go_size))
    have hw3 : Below w.heap.size w w3 := Below.next hw2 hq3
    go_wp2_with fail
    refine (core_Of _ ls u _ (HL.out.keep (by (repeat' (first | (with_reducible exact Below.refl _ _) | (with_reducible assumption) | (with_reducible refine Below.next ?_ (by with_reducible assumption)) | (with_reducible refine Below.drew ?_) | (with_reducible refine Below.laid ?_ _) | (with_reducible refine Below.setCell ?_ ?_ _) | (with_reducible refine size_of ?_) | (with_reducible refine Nat.le_succ_of_le ?_) | go_size)))) (HK.out.keep (by (repeat' (first | (with_reducible exact Below.refl _ _) | (with_reducible assumption) | (with_reducible refine Below.next ?_ (by with_reducible assumption)) | (with_reducible refine Below.drew ?_) | (with_reducible refine Below.laid ?_ _) | (with_reducible refine Below.setCell ?_ ?_ _) | (with_reducible refine size_of ?_) | (with_reducible refine Nat.le_succ_of_le ?_) | go_size))))).mono ?_
    rintro e w6 ⟨x, rfl, hb6, hx6⟩
    rw [HCV.out] at hx6
    obtain ⟨O2, k2, rfl⟩ := hx6.slice
    have HX6 := Lib.hid hx6
    rw [HE.out]
    clear hx6
    go_wp2_with fail
    refine (vennsame_Error _ _ _ (HET.out.keep (by (repeat' (first | (with_reducible exact Below.refl _ _) | (with_reducible assumption) | (with_reducible refine Below.next ?_ (by with_reducible assumption)) | (with_reducible refine Below.drew ?_) | (with_reducible refine Below.laid ?_ _) | (with_reducible refine Below.setCell ?_ ?_ _) | (with_reducible refine size_of ?_) | (with_reducible refine Nat.le_succ_of_le ?_) | go_size))))).mono ?_
    rintro e w7 ⟨rfl, hb7⟩
    go_wp2_with fail
    refine (same_Ints _ _ [] [] _ (HX6.out.keep hb7) (IsIntsNil _)).mono ?_
    rintro e w8 ⟨rfl, hb8⟩
    rw [beq_self_eq_true]
    go_wp2
    go_ret
    exact ⟨by simp, Below.next (Below.next (Below.next hw3 hb6) hb7) hb8⟩
end Go.Proofs.YtcecbpbpknphjaaDoor
