/-
  THE WALK of the reference's Atom.
-/
import Derived.Test.YtlpfbdejiifbpaaGreatDoorRefTerm
import Derived.Test.YtlpfbdejiifbpaaGreatDoorVennP1
namespace Go.Proofs.YtlpfbdejiifbpaaGreatDoor
open Go.RowKit

set_option maxHeartbeats 4000000 in
set_option maxRecDepth 100000 in
theorem ref_Atom (what n : Int) (sv tv : Value) (s t : List Int) (w : World) (hs : IsInts w sv s) (ht : IsInts w tv t) :
    Calls Tryz.prog 32 #[.agg #[.int .i64 what, sv, tv, .int .i64 n]] w (Keeps (.int .i64 (Venn.atomChk ⟨what, s, t, n⟩)) w) := by
  obtain ⟨sA, sc, rfl, hs'⟩ := hs
  obtain ⟨tA, tc, rfl, ht'⟩ := ht
  have HS := Lib.hid (show IsInts w (.slice sA s.length sc) s from ⟨sA, sc, rfl, hs'⟩)
  have HT := Lib.hid (show IsInts w (.slice tA t.length tc) t from ⟨tA, tc, rfl, ht'⟩)
  clear hs' ht'
  obtain ⟨E, hE⟩ : ∃ E, E = Venn.atomChk ⟨what, s, t, n⟩ := ⟨_, rfl⟩
  rw [← hE]
  by_cases h1 : what < 1
  · have HV := Lib.hid (show E = 1 by rw [hE, Venn.atomChk, if_pos (.inl h1)])
    clear hE
    go_enter Tryz.func32, Tryz.ntmps32
    go_wp2
    go_ret
    exact ⟨ret_int HV.out.symm, by (repeat' (first | (with_reducible exact Below.refl _ _) | (with_reducible assumption) | (with_reducible refine Below.next ?_ (by with_reducible assumption)) | (with_reducible refine Below.drew ?_) | (with_reducible refine Below.laid ?_ _) | (with_reducible refine Below.setCell ?_ ?_ _) | (with_reducible refine size_of ?_) | (with_reducible refine Nat.le_succ_of_le ?_) | go_size))⟩
  by_cases h2 : 5 < what
  · have HV := Lib.hid (show E = 1 by rw [hE, Venn.atomChk, if_pos (.inr h2)])
    clear hE
    go_enter Tryz.func32, Tryz.ntmps32
    go_wp2
    go_ret
    exact ⟨ret_int HV.out.symm, by (repeat' (first | (with_reducible exact Below.refl _ _) | (with_reducible assumption) | (with_reducible refine Below.next ?_ (by with_reducible assumption)) | (with_reducible refine Below.drew ?_) | (with_reducible refine Below.laid ?_ _) | (with_reducible refine Below.setCell ?_ ?_ _) | (with_reducible refine size_of ?_) | (with_reducible refine Nat.le_succ_of_le ?_) | go_size))⟩
  have HTS := Lib.hid (fun W h => ref_Term (.slice sA s.length sc) s W h)
  have HTT := Lib.hid (fun W h => ref_Term (.slice tA t.length tc) t W h)
  rcases (by omega : what = 1 ∨ what = 2 ∨ what = 3 ∨ what = 4 ∨ what = 5) with rfl | rfl | rfl | rfl | rfl
  · have hna : ∀ m : Int, Venn.nChk 1 n = m → Venn.termChk s = 0 → Venn.termChk t = 0 → Venn.atomChk ⟨1, s, t, n⟩ = m := fun m h1 h2 h3 => by
      simp [Venn.atomChk, h2, h3, Venn.hasT, h1]
    by_cases hS : ¬ Venn.termChk s = 0
    · have HV := Lib.hid (show E = Venn.termChk s by rw [hE]; simp [Venn.atomChk, hS])
      have q : (Venn.termChk s != 0) = true := by simpa using hS
      clear hE hna hS
      generalize Venn.termChk s = ES at q HV HTS
      go_enter Tryz.func32, Tryz.ntmps32
      go_wp2_with fail
      refine (HTS.out _ (HS.out.keep (by (repeat' (first | (with_reducible exact Below.refl _ _) | (with_reducible assumption) | (with_reducible refine Below.next ?_ (by with_reducible assumption)) | (with_reducible refine Below.drew ?_) | (with_reducible refine Below.laid ?_ _) | (with_reducible refine Below.setCell ?_ ?_ _) | (with_reducible refine size_of ?_) | (with_reducible refine Nat.le_succ_of_le ?_) | go_size))))).mono ?_
      rintro e w1 ⟨rfl, rfl⟩
      go_wp2
      go_ret
      exact ⟨ret_int HV.out.symm, by (repeat' (first | (with_reducible exact Below.refl _ _) | (with_reducible assumption) | (with_reducible refine Below.next ?_ (by with_reducible assumption)) | (with_reducible refine Below.drew ?_) | (with_reducible refine Below.laid ?_ _) | (with_reducible refine Below.setCell ?_ ?_ _) | (with_reducible refine size_of ?_) | (with_reducible refine Nat.le_succ_of_le ?_) | go_size))⟩
    replace hS := Decidable.not_not.1 hS
    have HZS := Lib.hid hS
    by_cases hT : ¬ Venn.termChk t = 0
    · have HV := Lib.hid (show E = Venn.termChk t by rw [hE]; simp [Venn.atomChk, hS, hT, Venn.hasT])
      have q : (Venn.termChk t != 0) = true := by simpa using hT
      clear hE hna hS hT
      generalize Venn.termChk t = ET at q HV HTT
      go_enter Tryz.func32, Tryz.ntmps32
      go_wp2_with fail
      refine (HTS.out _ (HS.out.keep (by (repeat' (first | (with_reducible exact Below.refl _ _) | (with_reducible assumption) | (with_reducible refine Below.next ?_ (by with_reducible assumption)) | (with_reducible refine Below.drew ?_) | (with_reducible refine Below.laid ?_ _) | (with_reducible refine Below.setCell ?_ ?_ _) | (with_reducible refine size_of ?_) | (with_reducible refine Nat.le_succ_of_le ?_) | go_size))))).mono ?_
      rintro e w1 ⟨rfl, rfl⟩
      rw [HZS.out]
      go_wp2_with fail
      refine (HTT.out _ (HT.out.keep (by (repeat' (first | (with_reducible exact Below.refl _ _) | (with_reducible assumption) | (with_reducible refine Below.next ?_ (by with_reducible assumption)) | (with_reducible refine Below.drew ?_) | (with_reducible refine Below.laid ?_ _) | (with_reducible refine Below.setCell ?_ ?_ _) | (with_reducible refine size_of ?_) | (with_reducible refine Nat.le_succ_of_le ?_) | go_size))))).mono ?_
      rintro e w1 ⟨rfl, rfl⟩
      go_wp2
      go_ret
      exact ⟨ret_int HV.out.symm, by (repeat' (first | (with_reducible exact Below.refl _ _) | (with_reducible assumption) | (with_reducible refine Below.next ?_ (by with_reducible assumption)) | (with_reducible refine Below.drew ?_) | (with_reducible refine Below.laid ?_ _) | (with_reducible refine Below.setCell ?_ ?_ _) | (with_reducible refine size_of ?_) | (with_reducible refine Nat.le_succ_of_le ?_) | go_size))⟩
    replace hT := Decidable.not_not.1 hT
    have HZT := Lib.hid hT
    by_cases n1 : n < -20
    · have HV := Lib.hid (show E = 1 by rw [hE]; exact hna _ (by unfold Venn.nChk; rw [if_pos (by omega)]) hS hT)
      clear hE hna hS hT
      go_enter Tryz.func32, Tryz.ntmps32
      go_wp2_with fail
      refine (HTS.out _ (HS.out.keep (by (repeat' (first | (with_reducible exact Below.refl _ _) | (with_reducible assumption) | (with_reducible refine Below.next ?_ (by with_reducible assumption)) | (with_reducible refine Below.drew ?_) | (with_reducible refine Below.laid ?_ _) | (with_reducible refine Below.setCell ?_ ?_ _) | (with_reducible refine size_of ?_) | (with_reducible refine Nat.le_succ_of_le ?_) | go_size))))).mono ?_
      rintro e w1 ⟨rfl, rfl⟩
      rw [HZS.out]
      go_wp2_with fail
      refine (HTT.out _ (HT.out.keep (by (repeat' (first | (with_reducible exact Below.refl _ _) | (with_reducible assumption) | (with_reducible refine Below.next ?_ (by with_reducible assumption)) | (with_reducible refine Below.drew ?_) | (with_reducible refine Below.laid ?_ _) | (with_reducible refine Below.setCell ?_ ?_ _) | (with_reducible refine size_of ?_) | (with_reducible refine Nat.le_succ_of_le ?_) | go_size))))).mono ?_
      rintro e w1 ⟨rfl, rfl⟩
      rw [HZT.out]
      go_wp2
      go_ret
      exact ⟨ret_int HV.out.symm, by (repeat' (first | (with_reducible exact Below.refl _ _) | (with_reducible assumption) | (with_reducible refine Below.next ?_ (by with_reducible assumption)) | (with_reducible refine Below.drew ?_) | (with_reducible refine Below.laid ?_ _) | (with_reducible refine Below.setCell ?_ ?_ _) | (with_reducible refine size_of ?_) | (with_reducible refine Nat.le_succ_of_le ?_) | go_size))⟩
    by_cases n2 : 20 < n
    · have HV := Lib.hid (show E = 1 by rw [hE]; exact hna _ (by unfold Venn.nChk; rw [if_pos (by omega)]) hS hT)
      clear hE hna hS hT
      go_enter Tryz.func32, Tryz.ntmps32
      go_wp2_with fail
      refine (HTS.out _ (HS.out.keep (by (repeat' (first | (with_reducible exact Below.refl _ _) | (with_reducible assumption) | (with_reducible refine Below.next ?_ (by with_reducible assumption)) | (with_reducible refine Below.drew ?_) | (with_reducible refine Below.laid ?_ _) | (with_reducible refine Below.setCell ?_ ?_ _) | (with_reducible refine size_of ?_) | (with_reducible refine Nat.le_succ_of_le ?_) | go_size))))).mono ?_
      rintro e w1 ⟨rfl, rfl⟩
      rw [HZS.out]
      go_wp2_with fail
      refine (HTT.out _ (HT.out.keep (by (repeat' (first | (with_reducible exact Below.refl _ _) | (with_reducible assumption) | (with_reducible refine Below.next ?_ (by with_reducible assumption)) | (with_reducible refine Below.drew ?_) | (with_reducible refine Below.laid ?_ _) | (with_reducible refine Below.setCell ?_ ?_ _) | (with_reducible refine size_of ?_) | (with_reducible refine Nat.le_succ_of_le ?_) | go_size))))).mono ?_
      rintro e w1 ⟨rfl, rfl⟩
      rw [HZT.out]
      go_wp2
      go_ret
      exact ⟨ret_int HV.out.symm, by (repeat' (first | (with_reducible exact Below.refl _ _) | (with_reducible assumption) | (with_reducible refine Below.next ?_ (by with_reducible assumption)) | (with_reducible refine Below.drew ?_) | (with_reducible refine Below.laid ?_ _) | (with_reducible refine Below.setCell ?_ ?_ _) | (with_reducible refine size_of ?_) | (with_reducible refine Nat.le_succ_of_le ?_) | go_size))⟩
    by_cases n3 : ¬ n = 0
    · have HV := Lib.hid (show E = 1 by rw [hE]; exact hna _ (by unfold Venn.nChk; rw [if_pos (by omega)]) hS hT)
      have q3 : (n != 0) = true := by simpa using n3
      clear hE hna hS hT
      go_enter Tryz.func32, Tryz.ntmps32
      go_wp2_with fail
      refine (HTS.out _ (HS.out.keep (by (repeat' (first | (with_reducible exact Below.refl _ _) | (with_reducible assumption) | (with_reducible refine Below.next ?_ (by with_reducible assumption)) | (with_reducible refine Below.drew ?_) | (with_reducible refine Below.laid ?_ _) | (with_reducible refine Below.setCell ?_ ?_ _) | (with_reducible refine size_of ?_) | (with_reducible refine Nat.le_succ_of_le ?_) | go_size))))).mono ?_
      rintro e w1 ⟨rfl, rfl⟩
      rw [HZS.out]
      go_wp2_with fail
      refine (HTT.out _ (HT.out.keep (by (repeat' (first | (with_reducible exact Below.refl _ _) | (with_reducible assumption) | (with_reducible refine Below.next ?_ (by with_reducible assumption)) | (with_reducible refine Below.drew ?_) | (with_reducible refine Below.laid ?_ _) | (with_reducible refine Below.setCell ?_ ?_ _) | (with_reducible refine size_of ?_) | (with_reducible refine Nat.le_succ_of_le ?_) | go_size))))).mono ?_
      rintro e w1 ⟨rfl, rfl⟩
      rw [HZT.out]
      go_wp2
      go_ret
      exact ⟨ret_int HV.out.symm, by (repeat' (first | (with_reducible exact Below.refl _ _) | (with_reducible assumption) | (with_reducible refine Below.next ?_ (by with_reducible assumption)) | (with_reducible refine Below.drew ?_) | (with_reducible refine Below.laid ?_ _) | (with_reducible refine Below.setCell ?_ ?_ _) | (with_reducible refine size_of ?_) | (with_reducible refine Nat.le_succ_of_le ?_) | go_size))⟩
    replace n3 := Decidable.not_not.1 n3
    · have HV := Lib.hid (show E = 0 by rw [hE]; exact hna _ (by unfold Venn.nChk; rw [if_neg (by omega)]) hS hT)
      have q3 : (n != 0) = false := by simpa using n3
      clear n3
      clear hE hna hS hT
      go_enter Tryz.func32, Tryz.ntmps32
      go_wp2_with fail
      refine (HTS.out _ (HS.out.keep (by (repeat' (first | (with_reducible exact Below.refl _ _) | (with_reducible assumption) | (with_reducible refine Below.next ?_ (by with_reducible assumption)) | (with_reducible refine Below.drew ?_) | (with_reducible refine Below.laid ?_ _) | (with_reducible refine Below.setCell ?_ ?_ _) | (with_reducible refine size_of ?_) | (with_reducible refine Nat.le_succ_of_le ?_) | go_size))))).mono ?_
      rintro e w1 ⟨rfl, rfl⟩
      rw [HZS.out]
      go_wp2_with fail
      refine (HTT.out _ (HT.out.keep (by (repeat' (first | (with_reducible exact Below.refl _ _) | (with_reducible assumption) | (with_reducible refine Below.next ?_ (by with_reducible assumption)) | (with_reducible refine Below.drew ?_) | (with_reducible refine Below.laid ?_ _) | (with_reducible refine Below.setCell ?_ ?_ _) | (with_reducible refine size_of ?_) | (with_reducible refine Nat.le_succ_of_le ?_) | go_size))))).mono ?_
      rintro e w1 ⟨rfl, rfl⟩
      rw [HZT.out]
      go_wp2
      go_ret
      exact ⟨ret_int HV.out.symm, by (repeat' (first | (with_reducible exact Below.refl _ _) | (with_reducible assumption) | (with_reducible refine Below.next ?_ (by with_reducible assumption)) | (with_reducible refine Below.drew ?_) | (with_reducible refine Below.laid ?_ _) | (with_reducible refine Below.setCell ?_ ?_ _) | (with_reducible refine size_of ?_) | (with_reducible refine Nat.le_succ_of_le ?_) | go_size))⟩
  · have hna : ∀ m : Int, Venn.nChk 2 n = m → Venn.termChk s = 0 → Venn.termChk t = 0 → Venn.atomChk ⟨2, s, t, n⟩ = m := fun m h1 h2 h3 => by
      simp [Venn.atomChk, h2, h3, Venn.hasT, h1]
    by_cases hS : ¬ Venn.termChk s = 0
    · have HV := Lib.hid (show E = Venn.termChk s by rw [hE]; simp [Venn.atomChk, hS])
      have q : (Venn.termChk s != 0) = true := by simpa using hS
      clear hE hna hS
      generalize Venn.termChk s = ES at q HV HTS
      go_enter Tryz.func32, Tryz.ntmps32
      go_wp2_with fail
      refine (HTS.out _ (HS.out.keep (by (repeat' (first | (with_reducible exact Below.refl _ _) | (with_reducible assumption) | (with_reducible refine Below.next ?_ (by with_reducible assumption)) | (with_reducible refine Below.drew ?_) | (with_reducible refine Below.laid ?_ _) | (with_reducible refine Below.setCell ?_ ?_ _) | (with_reducible refine size_of ?_) | (with_reducible refine Nat.le_succ_of_le ?_) | go_size))))).mono ?_
      rintro e w1 ⟨rfl, rfl⟩
      go_wp2
      go_ret
      exact ⟨ret_int HV.out.symm, by (repeat' (first | (with_reducible exact Below.refl _ _) | (with_reducible assumption) | (with_reducible refine Below.next ?_ (by with_reducible assumption)) | (with_reducible refine Below.drew ?_) | (with_reducible refine Below.laid ?_ _) | (with_reducible refine Below.setCell ?_ ?_ _) | (with_reducible refine size_of ?_) | (with_reducible refine Nat.le_succ_of_le ?_) | go_size))⟩
    replace hS := Decidable.not_not.1 hS
    have HZS := Lib.hid hS
    by_cases hT : ¬ Venn.termChk t = 0
    · have HV := Lib.hid (show E = Venn.termChk t by rw [hE]; simp [Venn.atomChk, hS, hT, Venn.hasT])
      have q : (Venn.termChk t != 0) = true := by simpa using hT
      clear hE hna hS hT
      generalize Venn.termChk t = ET at q HV HTT
      go_enter Tryz.func32, Tryz.ntmps32
      go_wp2_with fail
      refine (HTS.out _ (HS.out.keep (by (repeat' (first | (with_reducible exact Below.refl _ _) | (with_reducible assumption) | (with_reducible refine Below.next ?_ (by with_reducible assumption)) | (with_reducible refine Below.drew ?_) | (with_reducible refine Below.laid ?_ _) | (with_reducible refine Below.setCell ?_ ?_ _) | (with_reducible refine size_of ?_) | (with_reducible refine Nat.le_succ_of_le ?_) | go_size))))).mono ?_
      rintro e w1 ⟨rfl, rfl⟩
      rw [HZS.out]
      go_wp2_with fail
      refine (HTT.out _ (HT.out.keep (by (repeat' (first | (with_reducible exact Below.refl _ _) | (with_reducible assumption) | (with_reducible refine Below.next ?_ (by with_reducible assumption)) | (with_reducible refine Below.drew ?_) | (with_reducible refine Below.laid ?_ _) | (with_reducible refine Below.setCell ?_ ?_ _) | (with_reducible refine size_of ?_) | (with_reducible refine Nat.le_succ_of_le ?_) | go_size))))).mono ?_
      rintro e w1 ⟨rfl, rfl⟩
      go_wp2
      go_ret
      exact ⟨ret_int HV.out.symm, by (repeat' (first | (with_reducible exact Below.refl _ _) | (with_reducible assumption) | (with_reducible refine Below.next ?_ (by with_reducible assumption)) | (with_reducible refine Below.drew ?_) | (with_reducible refine Below.laid ?_ _) | (with_reducible refine Below.setCell ?_ ?_ _) | (with_reducible refine size_of ?_) | (with_reducible refine Nat.le_succ_of_le ?_) | go_size))⟩
    replace hT := Decidable.not_not.1 hT
    have HZT := Lib.hid hT
    by_cases n1 : n < -20
    · have HV := Lib.hid (show E = 1 by rw [hE]; exact hna _ (by unfold Venn.nChk; rw [if_pos (by omega)]) hS hT)
      clear hE hna hS hT
      go_enter Tryz.func32, Tryz.ntmps32
      go_wp2_with fail
      refine (HTS.out _ (HS.out.keep (by (repeat' (first | (with_reducible exact Below.refl _ _) | (with_reducible assumption) | (with_reducible refine Below.next ?_ (by with_reducible assumption)) | (with_reducible refine Below.drew ?_) | (with_reducible refine Below.laid ?_ _) | (with_reducible refine Below.setCell ?_ ?_ _) | (with_reducible refine size_of ?_) | (with_reducible refine Nat.le_succ_of_le ?_) | go_size))))).mono ?_
      rintro e w1 ⟨rfl, rfl⟩
      rw [HZS.out]
      go_wp2_with fail
      refine (HTT.out _ (HT.out.keep (by (repeat' (first | (with_reducible exact Below.refl _ _) | (with_reducible assumption) | (with_reducible refine Below.next ?_ (by with_reducible assumption)) | (with_reducible refine Below.drew ?_) | (with_reducible refine Below.laid ?_ _) | (with_reducible refine Below.setCell ?_ ?_ _) | (with_reducible refine size_of ?_) | (with_reducible refine Nat.le_succ_of_le ?_) | go_size))))).mono ?_
      rintro e w1 ⟨rfl, rfl⟩
      rw [HZT.out]
      go_wp2
      go_ret
      exact ⟨ret_int HV.out.symm, by (repeat' (first | (with_reducible exact Below.refl _ _) | (with_reducible assumption) | (with_reducible refine Below.next ?_ (by with_reducible assumption)) | (with_reducible refine Below.drew ?_) | (with_reducible refine Below.laid ?_ _) | (with_reducible refine Below.setCell ?_ ?_ _) | (with_reducible refine size_of ?_) | (with_reducible refine Nat.le_succ_of_le ?_) | go_size))⟩
    by_cases n2 : 20 < n
    · have HV := Lib.hid (show E = 1 by rw [hE]; exact hna _ (by unfold Venn.nChk; rw [if_pos (by omega)]) hS hT)
      clear hE hna hS hT
      go_enter Tryz.func32, Tryz.ntmps32
      go_wp2_with fail
      refine (HTS.out _ (HS.out.keep (by (repeat' (first | (with_reducible exact Below.refl _ _) | (with_reducible assumption) | (with_reducible refine Below.next ?_ (by with_reducible assumption)) | (with_reducible refine Below.drew ?_) | (with_reducible refine Below.laid ?_ _) | (with_reducible refine Below.setCell ?_ ?_ _) | (with_reducible refine size_of ?_) | (with_reducible refine Nat.le_succ_of_le ?_) | go_size))))).mono ?_
      rintro e w1 ⟨rfl, rfl⟩
      rw [HZS.out]
      go_wp2_with fail
      refine (HTT.out _ (HT.out.keep (by (repeat' (first | (with_reducible exact Below.refl _ _) | (with_reducible assumption) | (with_reducible refine Below.next ?_ (by with_reducible assumption)) | (with_reducible refine Below.drew ?_) | (with_reducible refine Below.laid ?_ _) | (with_reducible refine Below.setCell ?_ ?_ _) | (with_reducible refine size_of ?_) | (with_reducible refine Nat.le_succ_of_le ?_) | go_size))))).mono ?_
      rintro e w1 ⟨rfl, rfl⟩
      rw [HZT.out]
      go_wp2
      go_ret
      exact ⟨ret_int HV.out.symm, by (repeat' (first | (with_reducible exact Below.refl _ _) | (with_reducible assumption) | (with_reducible refine Below.next ?_ (by with_reducible assumption)) | (with_reducible refine Below.drew ?_) | (with_reducible refine Below.laid ?_ _) | (with_reducible refine Below.setCell ?_ ?_ _) | (with_reducible refine size_of ?_) | (with_reducible refine Nat.le_succ_of_le ?_) | go_size))⟩
    by_cases n3 : ¬ n = 0
    · have HV := Lib.hid (show E = 1 by rw [hE]; exact hna _ (by unfold Venn.nChk; rw [if_pos (by omega)]) hS hT)
      have q3 : (n != 0) = true := by simpa using n3
      clear hE hna hS hT
      go_enter Tryz.func32, Tryz.ntmps32
      go_wp2_with fail
      refine (HTS.out _ (HS.out.keep (by (repeat' (first | (with_reducible exact Below.refl _ _) | (with_reducible assumption) | (with_reducible refine Below.next ?_ (by with_reducible assumption)) | (with_reducible refine Below.drew ?_) | (with_reducible refine Below.laid ?_ _) | (with_reducible refine Below.setCell ?_ ?_ _) | (with_reducible refine size_of ?_) | (with_reducible refine Nat.le_succ_of_le ?_) | go_size))))).mono ?_
      rintro e w1 ⟨rfl, rfl⟩
      rw [HZS.out]
      go_wp2_with fail
      refine (HTT.out _ (HT.out.keep (by (repeat' (first | (with_reducible exact Below.refl _ _) | (with_reducible assumption) | (with_reducible refine Below.next ?_ (by with_reducible assumption)) | (with_reducible refine Below.drew ?_) | (with_reducible refine Below.laid ?_ _) | (with_reducible refine Below.setCell ?_ ?_ _) | (with_reducible refine size_of ?_) | (with_reducible refine Nat.le_succ_of_le ?_) | go_size))))).mono ?_
      rintro e w1 ⟨rfl, rfl⟩
      rw [HZT.out]
      go_wp2
      go_ret
      exact ⟨ret_int HV.out.symm, by (repeat' (first | (with_reducible exact Below.refl _ _) | (with_reducible assumption) | (with_reducible refine Below.next ?_ (by with_reducible assumption)) | (with_reducible refine Below.drew ?_) | (with_reducible refine Below.laid ?_ _) | (with_reducible refine Below.setCell ?_ ?_ _) | (with_reducible refine size_of ?_) | (with_reducible refine Nat.le_succ_of_le ?_) | go_size))⟩
    replace n3 := Decidable.not_not.1 n3
    · have HV := Lib.hid (show E = 0 by rw [hE]; exact hna _ (by unfold Venn.nChk; rw [if_neg (by omega)]) hS hT)
      have q3 : (n != 0) = false := by simpa using n3
      clear n3
      clear hE hna hS hT
      go_enter Tryz.func32, Tryz.ntmps32
      go_wp2_with fail
      refine (HTS.out _ (HS.out.keep (by (repeat' (first | (with_reducible exact Below.refl _ _) | (with_reducible assumption) | (with_reducible refine Below.next ?_ (by with_reducible assumption)) | (with_reducible refine Below.drew ?_) | (with_reducible refine Below.laid ?_ _) | (with_reducible refine Below.setCell ?_ ?_ _) | (with_reducible refine size_of ?_) | (with_reducible refine Nat.le_succ_of_le ?_) | go_size))))).mono ?_
      rintro e w1 ⟨rfl, rfl⟩
      rw [HZS.out]
      go_wp2_with fail
      refine (HTT.out _ (HT.out.keep (by (repeat' (first | (with_reducible exact Below.refl _ _) | (with_reducible assumption) | (with_reducible refine Below.next ?_ (by with_reducible assumption)) | (with_reducible refine Below.drew ?_) | (with_reducible refine Below.laid ?_ _) | (with_reducible refine Below.setCell ?_ ?_ _) | (with_reducible refine size_of ?_) | (with_reducible refine Nat.le_succ_of_le ?_) | go_size))))).mono ?_
      rintro e w1 ⟨rfl, rfl⟩
      rw [HZT.out]
      go_wp2
      go_ret
      exact ⟨ret_int HV.out.symm, by (repeat' (first | (with_reducible exact Below.refl _ _) | (with_reducible assumption) | (with_reducible refine Below.next ?_ (by with_reducible assumption)) | (with_reducible refine Below.drew ?_) | (with_reducible refine Below.laid ?_ _) | (with_reducible refine Below.setCell ?_ ?_ _) | (with_reducible refine size_of ?_) | (with_reducible refine Nat.le_succ_of_le ?_) | go_size))⟩
  · have hna : ∀ m : Int, Venn.nChk 3 n = m → Venn.termChk s = 0 → t = [] → Venn.atomChk ⟨3, s, t, n⟩ = m := fun m h1 h2 h3 => by
      simp [Venn.atomChk, h2, h3, Venn.hasT, h1]
    by_cases hS : ¬ Venn.termChk s = 0
    · have HV := Lib.hid (show E = Venn.termChk s by rw [hE]; simp [Venn.atomChk, hS])
      have q : (Venn.termChk s != 0) = true := by simpa using hS
      clear hE hna hS
      generalize Venn.termChk s = ES at q HV HTS
      go_enter Tryz.func32, Tryz.ntmps32
      go_wp2_with fail
      refine (HTS.out _ (HS.out.keep (by (repeat' (first | (with_reducible exact Below.refl _ _) | (with_reducible assumption) | (with_reducible refine Below.next ?_ (by with_reducible assumption)) | (with_reducible refine Below.drew ?_) | (with_reducible refine Below.laid ?_ _) | (with_reducible refine Below.setCell ?_ ?_ _) | (with_reducible refine size_of ?_) | (with_reducible refine Nat.le_succ_of_le ?_) | go_size))))).mono ?_
      rintro e w1 ⟨rfl, rfl⟩
      go_wp2
      go_ret
      exact ⟨ret_int HV.out.symm, by (repeat' (first | (with_reducible exact Below.refl _ _) | (with_reducible assumption) | (with_reducible refine Below.next ?_ (by with_reducible assumption)) | (with_reducible refine Below.drew ?_) | (with_reducible refine Below.laid ?_ _) | (with_reducible refine Below.setCell ?_ ?_ _) | (with_reducible refine size_of ?_) | (with_reducible refine Nat.le_succ_of_le ?_) | go_size))⟩
    replace hS := Decidable.not_not.1 hS
    have HZS := Lib.hid hS
    by_cases hT : ¬ t = []
    · have HV := Lib.hid (show E = 3 by rw [hE]; simp [Venn.atomChk, hS, hT, Venn.hasT])
      have q : (0 : Int) < (t.length : Int) := by
        rcases t with _ | ⟨x, t⟩
        · exact absurd rfl hT
        · simp only [List.length_cons]; omega
      clear hE hna hS hT
      go_enter Tryz.func32, Tryz.ntmps32
      go_wp2_with fail
      refine (HTS.out _ (HS.out.keep (by (repeat' (first | (with_reducible exact Below.refl _ _) | (with_reducible assumption) | (with_reducible refine Below.next ?_ (by with_reducible assumption)) | (with_reducible refine Below.drew ?_) | (with_reducible refine Below.laid ?_ _) | (with_reducible refine Below.setCell ?_ ?_ _) | (with_reducible refine size_of ?_) | (with_reducible refine Nat.le_succ_of_le ?_) | go_size))))).mono ?_
      rintro e w1 ⟨rfl, rfl⟩
      rw [HZS.out]
      go_wp2
      go_ret
      exact ⟨ret_int HV.out.symm, by (repeat' (first | (with_reducible exact Below.refl _ _) | (with_reducible assumption) | (with_reducible refine Below.next ?_ (by with_reducible assumption)) | (with_reducible refine Below.drew ?_) | (with_reducible refine Below.laid ?_ _) | (with_reducible refine Below.setCell ?_ ?_ _) | (with_reducible refine size_of ?_) | (with_reducible refine Nat.le_succ_of_le ?_) | go_size))⟩
    replace hT := Decidable.not_not.1 hT
    have q : ¬ (0 : Int) < (t.length : Int) := by rw [hT]; simp
    by_cases n1 : n < -20
    · have HV := Lib.hid (show E = 1 by rw [hE]; exact hna _ (by unfold Venn.nChk; rw [if_pos (by omega)]) hS hT)
      clear hE hna hS hT
      go_enter Tryz.func32, Tryz.ntmps32
      go_wp2_with fail
      refine (HTS.out _ (HS.out.keep (by (repeat' (first | (with_reducible exact Below.refl _ _) | (with_reducible assumption) | (with_reducible refine Below.next ?_ (by with_reducible assumption)) | (with_reducible refine Below.drew ?_) | (with_reducible refine Below.laid ?_ _) | (with_reducible refine Below.setCell ?_ ?_ _) | (with_reducible refine size_of ?_) | (with_reducible refine Nat.le_succ_of_le ?_) | go_size))))).mono ?_
      rintro e w1 ⟨rfl, rfl⟩
      rw [HZS.out]
      go_wp2
      go_ret
      exact ⟨ret_int HV.out.symm, by (repeat' (first | (with_reducible exact Below.refl _ _) | (with_reducible assumption) | (with_reducible refine Below.next ?_ (by with_reducible assumption)) | (with_reducible refine Below.drew ?_) | (with_reducible refine Below.laid ?_ _) | (with_reducible refine Below.setCell ?_ ?_ _) | (with_reducible refine size_of ?_) | (with_reducible refine Nat.le_succ_of_le ?_) | go_size))⟩
    by_cases n2 : 20 < n
    · have HV := Lib.hid (show E = 1 by rw [hE]; exact hna _ (by unfold Venn.nChk; rw [if_pos (by omega)]) hS hT)
      clear hE hna hS hT
      go_enter Tryz.func32, Tryz.ntmps32
      go_wp2_with fail
      refine (HTS.out _ (HS.out.keep (by (repeat' (first | (with_reducible exact Below.refl _ _) | (with_reducible assumption) | (with_reducible refine Below.next ?_ (by with_reducible assumption)) | (with_reducible refine Below.drew ?_) | (with_reducible refine Below.laid ?_ _) | (with_reducible refine Below.setCell ?_ ?_ _) | (with_reducible refine size_of ?_) | (with_reducible refine Nat.le_succ_of_le ?_) | go_size))))).mono ?_
      rintro e w1 ⟨rfl, rfl⟩
      rw [HZS.out]
      go_wp2
      go_ret
      exact ⟨ret_int HV.out.symm, by (repeat' (first | (with_reducible exact Below.refl _ _) | (with_reducible assumption) | (with_reducible refine Below.next ?_ (by with_reducible assumption)) | (with_reducible refine Below.drew ?_) | (with_reducible refine Below.laid ?_ _) | (with_reducible refine Below.setCell ?_ ?_ _) | (with_reducible refine size_of ?_) | (with_reducible refine Nat.le_succ_of_le ?_) | go_size))⟩
    · have HV := Lib.hid (show E = 0 by rw [hE]; exact hna _ (by unfold Venn.nChk; rw [if_neg (by omega)]) hS hT)
      clear hE hna hS hT
      go_enter Tryz.func32, Tryz.ntmps32
      go_wp2_with fail
      refine (HTS.out _ (HS.out.keep (by (repeat' (first | (with_reducible exact Below.refl _ _) | (with_reducible assumption) | (with_reducible refine Below.next ?_ (by with_reducible assumption)) | (with_reducible refine Below.drew ?_) | (with_reducible refine Below.laid ?_ _) | (with_reducible refine Below.setCell ?_ ?_ _) | (with_reducible refine size_of ?_) | (with_reducible refine Nat.le_succ_of_le ?_) | go_size))))).mono ?_
      rintro e w1 ⟨rfl, rfl⟩
      rw [HZS.out]
      go_wp2
      go_ret
      exact ⟨ret_int HV.out.symm, by (repeat' (first | (with_reducible exact Below.refl _ _) | (with_reducible assumption) | (with_reducible refine Below.next ?_ (by with_reducible assumption)) | (with_reducible refine Below.drew ?_) | (with_reducible refine Below.laid ?_ _) | (with_reducible refine Below.setCell ?_ ?_ _) | (with_reducible refine size_of ?_) | (with_reducible refine Nat.le_succ_of_le ?_) | go_size))⟩
  · have hna : ∀ m : Int, Venn.nChk 4 n = m → Venn.termChk s = 0 → t = [] → Venn.atomChk ⟨4, s, t, n⟩ = m := fun m h1 h2 h3 => by
      simp [Venn.atomChk, h2, h3, Venn.hasT, h1]
    by_cases hS : ¬ Venn.termChk s = 0
    · have HV := Lib.hid (show E = Venn.termChk s by rw [hE]; simp [Venn.atomChk, hS])
      have q : (Venn.termChk s != 0) = true := by simpa using hS
      clear hE hna hS
      generalize Venn.termChk s = ES at q HV HTS
      go_enter Tryz.func32, Tryz.ntmps32
      go_wp2_with fail
      refine (HTS.out _ (HS.out.keep (by (repeat' (first | (with_reducible exact Below.refl _ _) | (with_reducible assumption) | (with_reducible refine Below.next ?_ (by with_reducible assumption)) | (with_reducible refine Below.drew ?_) | (with_reducible refine Below.laid ?_ _) | (with_reducible refine Below.setCell ?_ ?_ _) | (with_reducible refine size_of ?_) | (with_reducible refine Nat.le_succ_of_le ?_) | go_size))))).mono ?_
      rintro e w1 ⟨rfl, rfl⟩
      go_wp2
      go_ret
      exact ⟨ret_int HV.out.symm, by (repeat' (first | (with_reducible exact Below.refl _ _) | (with_reducible assumption) | (with_reducible refine Below.next ?_ (by with_reducible assumption)) | (with_reducible refine Below.drew ?_) | (with_reducible refine Below.laid ?_ _) | (with_reducible refine Below.setCell ?_ ?_ _) | (with_reducible refine size_of ?_) | (with_reducible refine Nat.le_succ_of_le ?_) | go_size))⟩
    replace hS := Decidable.not_not.1 hS
    have HZS := Lib.hid hS
    by_cases hT : ¬ t = []
    · have HV := Lib.hid (show E = 3 by rw [hE]; simp [Venn.atomChk, hS, hT, Venn.hasT])
      have q : (0 : Int) < (t.length : Int) := by
        rcases t with _ | ⟨x, t⟩
        · exact absurd rfl hT
        · simp only [List.length_cons]; omega
      clear hE hna hS hT
      go_enter Tryz.func32, Tryz.ntmps32
      go_wp2_with fail
      refine (HTS.out _ (HS.out.keep (by (repeat' (first | (with_reducible exact Below.refl _ _) | (with_reducible assumption) | (with_reducible refine Below.next ?_ (by with_reducible assumption)) | (with_reducible refine Below.drew ?_) | (with_reducible refine Below.laid ?_ _) | (with_reducible refine Below.setCell ?_ ?_ _) | (with_reducible refine size_of ?_) | (with_reducible refine Nat.le_succ_of_le ?_) | go_size))))).mono ?_
      rintro e w1 ⟨rfl, rfl⟩
      rw [HZS.out]
      go_wp2
      go_ret
      exact ⟨ret_int HV.out.symm, by (repeat' (first | (with_reducible exact Below.refl _ _) | (with_reducible assumption) | (with_reducible refine Below.next ?_ (by with_reducible assumption)) | (with_reducible refine Below.drew ?_) | (with_reducible refine Below.laid ?_ _) | (with_reducible refine Below.setCell ?_ ?_ _) | (with_reducible refine size_of ?_) | (with_reducible refine Nat.le_succ_of_le ?_) | go_size))⟩
    replace hT := Decidable.not_not.1 hT
    have q : ¬ (0 : Int) < (t.length : Int) := by rw [hT]; simp
    by_cases n1 : n < -20
    · have HV := Lib.hid (show E = 1 by rw [hE]; exact hna _ (by unfold Venn.nChk; rw [if_pos (by omega)]) hS hT)
      clear hE hna hS hT
      go_enter Tryz.func32, Tryz.ntmps32
      go_wp2_with fail
      refine (HTS.out _ (HS.out.keep (by (repeat' (first | (with_reducible exact Below.refl _ _) | (with_reducible assumption) | (with_reducible refine Below.next ?_ (by with_reducible assumption)) | (with_reducible refine Below.drew ?_) | (with_reducible refine Below.laid ?_ _) | (with_reducible refine Below.setCell ?_ ?_ _) | (with_reducible refine size_of ?_) | (with_reducible refine Nat.le_succ_of_le ?_) | go_size))))).mono ?_
      rintro e w1 ⟨rfl, rfl⟩
      rw [HZS.out]
      go_wp2
      go_ret
      exact ⟨ret_int HV.out.symm, by (repeat' (first | (with_reducible exact Below.refl _ _) | (with_reducible assumption) | (with_reducible refine Below.next ?_ (by with_reducible assumption)) | (with_reducible refine Below.drew ?_) | (with_reducible refine Below.laid ?_ _) | (with_reducible refine Below.setCell ?_ ?_ _) | (with_reducible refine size_of ?_) | (with_reducible refine Nat.le_succ_of_le ?_) | go_size))⟩
    by_cases n2 : 20 < n
    · have HV := Lib.hid (show E = 1 by rw [hE]; exact hna _ (by unfold Venn.nChk; rw [if_pos (by omega)]) hS hT)
      clear hE hna hS hT
      go_enter Tryz.func32, Tryz.ntmps32
      go_wp2_with fail
      refine (HTS.out _ (HS.out.keep (by (repeat' (first | (with_reducible exact Below.refl _ _) | (with_reducible assumption) | (with_reducible refine Below.next ?_ (by with_reducible assumption)) | (with_reducible refine Below.drew ?_) | (with_reducible refine Below.laid ?_ _) | (with_reducible refine Below.setCell ?_ ?_ _) | (with_reducible refine size_of ?_) | (with_reducible refine Nat.le_succ_of_le ?_) | go_size))))).mono ?_
      rintro e w1 ⟨rfl, rfl⟩
      rw [HZS.out]
      go_wp2
      go_ret
      exact ⟨ret_int HV.out.symm, by (repeat' (first | (with_reducible exact Below.refl _ _) | (with_reducible assumption) | (with_reducible refine Below.next ?_ (by with_reducible assumption)) | (with_reducible refine Below.drew ?_) | (with_reducible refine Below.laid ?_ _) | (with_reducible refine Below.setCell ?_ ?_ _) | (with_reducible refine size_of ?_) | (with_reducible refine Nat.le_succ_of_le ?_) | go_size))⟩
    · have HV := Lib.hid (show E = 0 by rw [hE]; exact hna _ (by unfold Venn.nChk; rw [if_neg (by omega)]) hS hT)
      clear hE hna hS hT
      go_enter Tryz.func32, Tryz.ntmps32
      go_wp2_with fail
      refine (HTS.out _ (HS.out.keep (by (repeat' (first | (with_reducible exact Below.refl _ _) | (with_reducible assumption) | (with_reducible refine Below.next ?_ (by with_reducible assumption)) | (with_reducible refine Below.drew ?_) | (with_reducible refine Below.laid ?_ _) | (with_reducible refine Below.setCell ?_ ?_ _) | (with_reducible refine size_of ?_) | (with_reducible refine Nat.le_succ_of_le ?_) | go_size))))).mono ?_
      rintro e w1 ⟨rfl, rfl⟩
      rw [HZS.out]
      go_wp2
      go_ret
      exact ⟨ret_int HV.out.symm, by (repeat' (first | (with_reducible exact Below.refl _ _) | (with_reducible assumption) | (with_reducible refine Below.next ?_ (by with_reducible assumption)) | (with_reducible refine Below.drew ?_) | (with_reducible refine Below.laid ?_ _) | (with_reducible refine Below.setCell ?_ ?_ _) | (with_reducible refine size_of ?_) | (with_reducible refine Nat.le_succ_of_le ?_) | go_size))⟩
  · have hna : ∀ m : Int, Venn.nChk 5 n = m → Venn.termChk s = 0 → Venn.termChk t = 0 → Venn.atomChk ⟨5, s, t, n⟩ = m := fun m h1 h2 h3 => by
      simp [Venn.atomChk, h2, h3, Venn.hasT, h1]
    by_cases hS : ¬ Venn.termChk s = 0
    · have HV := Lib.hid (show E = Venn.termChk s by rw [hE]; simp [Venn.atomChk, hS])
      have q : (Venn.termChk s != 0) = true := by simpa using hS
      clear hE hna hS
      generalize Venn.termChk s = ES at q HV HTS
      go_enter Tryz.func32, Tryz.ntmps32
      go_wp2_with fail
      refine (HTS.out _ (HS.out.keep (by (repeat' (first | (with_reducible exact Below.refl _ _) | (with_reducible assumption) | (with_reducible refine Below.next ?_ (by with_reducible assumption)) | (with_reducible refine Below.drew ?_) | (with_reducible refine Below.laid ?_ _) | (with_reducible refine Below.setCell ?_ ?_ _) | (with_reducible refine size_of ?_) | (with_reducible refine Nat.le_succ_of_le ?_) | go_size))))).mono ?_
      rintro e w1 ⟨rfl, rfl⟩
      go_wp2
      go_ret
      exact ⟨ret_int HV.out.symm, by (repeat' (first | (with_reducible exact Below.refl _ _) | (with_reducible assumption) | (with_reducible refine Below.next ?_ (by with_reducible assumption)) | (with_reducible refine Below.drew ?_) | (with_reducible refine Below.laid ?_ _) | (with_reducible refine Below.setCell ?_ ?_ _) | (with_reducible refine size_of ?_) | (with_reducible refine Nat.le_succ_of_le ?_) | go_size))⟩
    replace hS := Decidable.not_not.1 hS
    have HZS := Lib.hid hS
    by_cases hT : ¬ Venn.termChk t = 0
    · have HV := Lib.hid (show E = Venn.termChk t by rw [hE]; simp [Venn.atomChk, hS, hT, Venn.hasT])
      have q : (Venn.termChk t != 0) = true := by simpa using hT
      clear hE hna hS hT
      generalize Venn.termChk t = ET at q HV HTT
      go_enter Tryz.func32, Tryz.ntmps32
      go_wp2_with fail
      refine (HTS.out _ (HS.out.keep (by (repeat' (first | (with_reducible exact Below.refl _ _) | (with_reducible assumption) | (with_reducible refine Below.next ?_ (by with_reducible assumption)) | (with_reducible refine Below.drew ?_) | (with_reducible refine Below.laid ?_ _) | (with_reducible refine Below.setCell ?_ ?_ _) | (with_reducible refine size_of ?_) | (with_reducible refine Nat.le_succ_of_le ?_) | go_size))))).mono ?_
      rintro e w1 ⟨rfl, rfl⟩
      rw [HZS.out]
      go_wp2_with fail
      refine (HTT.out _ (HT.out.keep (by (repeat' (first | (with_reducible exact Below.refl _ _) | (with_reducible assumption) | (with_reducible refine Below.next ?_ (by with_reducible assumption)) | (with_reducible refine Below.drew ?_) | (with_reducible refine Below.laid ?_ _) | (with_reducible refine Below.setCell ?_ ?_ _) | (with_reducible refine size_of ?_) | (with_reducible refine Nat.le_succ_of_le ?_) | go_size))))).mono ?_
      rintro e w1 ⟨rfl, rfl⟩
      go_wp2
      go_ret
      exact ⟨ret_int HV.out.symm, by (repeat' (first | (with_reducible exact Below.refl _ _) | (with_reducible assumption) | (with_reducible refine Below.next ?_ (by with_reducible assumption)) | (with_reducible refine Below.drew ?_) | (with_reducible refine Below.laid ?_ _) | (with_reducible refine Below.setCell ?_ ?_ _) | (with_reducible refine size_of ?_) | (with_reducible refine Nat.le_succ_of_le ?_) | go_size))⟩
    replace hT := Decidable.not_not.1 hT
    have HZT := Lib.hid hT
    by_cases n1 : n < -20
    · have HV := Lib.hid (show E = 1 by rw [hE]; exact hna _ (by unfold Venn.nChk; rw [if_pos (by omega)]) hS hT)
      clear hE hna hS hT
      go_enter Tryz.func32, Tryz.ntmps32
      go_wp2_with fail
      refine (HTS.out _ (HS.out.keep (by (repeat' (first | (with_reducible exact Below.refl _ _) | (with_reducible assumption) | (with_reducible refine Below.next ?_ (by with_reducible assumption)) | (with_reducible refine Below.drew ?_) | (with_reducible refine Below.laid ?_ _) | (with_reducible refine Below.setCell ?_ ?_ _) | (with_reducible refine size_of ?_) | (with_reducible refine Nat.le_succ_of_le ?_) | go_size))))).mono ?_
      rintro e w1 ⟨rfl, rfl⟩
      rw [HZS.out]
      go_wp2_with fail
      refine (HTT.out _ (HT.out.keep (by (repeat' (first | (with_reducible exact Below.refl _ _) | (with_reducible assumption) | (with_reducible refine Below.next ?_ (by with_reducible assumption)) | (with_reducible refine Below.drew ?_) | (with_reducible refine Below.laid ?_ _) | (with_reducible refine Below.setCell ?_ ?_ _) | (with_reducible refine size_of ?_) | (with_reducible refine Nat.le_succ_of_le ?_) | go_size))))).mono ?_
      rintro e w1 ⟨rfl, rfl⟩
      rw [HZT.out]
      go_wp2
      go_ret
      exact ⟨ret_int HV.out.symm, by (repeat' (first | (with_reducible exact Below.refl _ _) | (with_reducible assumption) | (with_reducible refine Below.next ?_ (by with_reducible assumption)) | (with_reducible refine Below.drew ?_) | (with_reducible refine Below.laid ?_ _) | (with_reducible refine Below.setCell ?_ ?_ _) | (with_reducible refine size_of ?_) | (with_reducible refine Nat.le_succ_of_le ?_) | go_size))⟩
    by_cases n2 : 20 < n
    · have HV := Lib.hid (show E = 1 by rw [hE]; exact hna _ (by unfold Venn.nChk; rw [if_pos (by omega)]) hS hT)
      clear hE hna hS hT
      go_enter Tryz.func32, Tryz.ntmps32
      go_wp2_with fail
      refine (HTS.out _ (HS.out.keep (by (repeat' (first | (with_reducible exact Below.refl _ _) | (with_reducible assumption) | (with_reducible refine Below.next ?_ (by with_reducible assumption)) | (with_reducible refine Below.drew ?_) | (with_reducible refine Below.laid ?_ _) | (with_reducible refine Below.setCell ?_ ?_ _) | (with_reducible refine size_of ?_) | (with_reducible refine Nat.le_succ_of_le ?_) | go_size))))).mono ?_
      rintro e w1 ⟨rfl, rfl⟩
      rw [HZS.out]
      go_wp2_with fail
      refine (HTT.out _ (HT.out.keep (by (repeat' (first | (with_reducible exact Below.refl _ _) | (with_reducible assumption) | (with_reducible refine Below.next ?_ (by with_reducible assumption)) | (with_reducible refine Below.drew ?_) | (with_reducible refine Below.laid ?_ _) | (with_reducible refine Below.setCell ?_ ?_ _) | (with_reducible refine size_of ?_) | (with_reducible refine Nat.le_succ_of_le ?_) | go_size))))).mono ?_
      rintro e w1 ⟨rfl, rfl⟩
      rw [HZT.out]
      go_wp2
      go_ret
      exact ⟨ret_int HV.out.symm, by (repeat' (first | (with_reducible exact Below.refl _ _) | (with_reducible assumption) | (with_reducible refine Below.next ?_ (by with_reducible assumption)) | (with_reducible refine Below.drew ?_) | (with_reducible refine Below.laid ?_ _) | (with_reducible refine Below.setCell ?_ ?_ _) | (with_reducible refine size_of ?_) | (with_reducible refine Nat.le_succ_of_le ?_) | go_size))⟩
    · have HV := Lib.hid (show E = 0 by rw [hE]; exact hna _ (by unfold Venn.nChk; rw [if_neg (by omega)]) hS hT)
      clear hE hna hS hT
      go_enter Tryz.func32, Tryz.ntmps32
      go_wp2_with fail
      refine (HTS.out _ (HS.out.keep (by (repeat' (first | (with_reducible exact Below.refl _ _) | (with_reducible assumption) | (with_reducible refine Below.next ?_ (by with_reducible assumption)) | (with_reducible refine Below.drew ?_) | (with_reducible refine Below.laid ?_ _) | (with_reducible refine Below.setCell ?_ ?_ _) | (with_reducible refine size_of ?_) | (with_reducible refine Nat.le_succ_of_le ?_) | go_size))))).mono ?_
      rintro e w1 ⟨rfl, rfl⟩
      rw [HZS.out]
      go_wp2_with fail
      refine (HTT.out _ (HT.out.keep (by (repeat' (first | (with_reducible exact Below.refl _ _) | (with_reducible assumption) | (with_reducible refine Below.next ?_ (by with_reducible assumption)) | (with_reducible refine Below.drew ?_) | (with_reducible refine Below.laid ?_ _) | (with_reducible refine Below.setCell ?_ ?_ _) | (with_reducible refine size_of ?_) | (with_reducible refine Nat.le_succ_of_le ?_) | go_size))))).mono ?_
      rintro e w1 ⟨rfl, rfl⟩
      rw [HZT.out]
      go_wp2
      go_ret
      exact ⟨ret_int HV.out.symm, by (repeat' (first | (with_reducible exact Below.refl _ _) | (with_reducible assumption) | (with_reducible refine Below.next ?_ (by with_reducible assumption)) | (with_reducible refine Below.drew ?_) | (with_reducible refine Below.laid ?_ _) | (with_reducible refine Below.setCell ?_ ?_ _) | (with_reducible refine size_of ?_) | (with_reducible refine Nat.le_succ_of_le ?_) | go_size))⟩
end Go.Proofs.YtlpfbdejiifbpaaGreatDoor
