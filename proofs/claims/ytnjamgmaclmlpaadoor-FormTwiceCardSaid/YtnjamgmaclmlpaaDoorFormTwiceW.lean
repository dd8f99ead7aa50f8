/-
  THE WALK of vennlaw4.FormTwice.
-/
import Derived.Test.YtnjamgmaclmlpaaDoorNegate
import Derived.Test.YtnjamgmaclmlpaaDoorFormHolds
import Derived.Test.YtnjamgmaclmlpaaDoorLawF
import Derived.Test.YtnjamgmaclmlpaaDoorApp
import Derived.Test.YtnjamgmaclmlpaaDoorVennP2
namespace Go.Proofs.YtnjamgmaclmlpaaDoor
open Go.RowKit

/-- A formula's box X of a call's own, whose code is a row that grows. -/
structure XS (w5 wy : World) (X : Nat) (fa v : Value) (n : Nat) (xs : List Value) : Prop where
  old : Below w5.heap.size w5 wy
  bx : Blk wy X 41 #[fa, v]
  own : wy.ownsRow (X + 1) 3 1 v n xs
  at_ : w5.heap.size = X
theorem XS.append {w5 wy w6 : World} {X : Nat} {fa v v' : Value} {n n' : Nat} {xs xs' : List Value} (h : XS w5 wy X fa v n xs) (hg : wy.grownBy w6 v.ownBlock) (hown : w6.ownsRow (X + 1) 3 1 v' n' xs') : XS w5 (w6.setCell ⟨X, 1, none⟩ v') X fa v' n' xs' := by
  have hat := h.at_
  have hlt := h.bx.lt
  have hsz := h.old.size
  refine ⟨(h.old.grown hg (by omega) (fun g e => by have := (h.own.lt g e).1; omega)).setCell (by show w5.heap.size ≤ X; omega) _, ?_, ?_, hat⟩
  · have := (h.bx.but (But.of_grown hg) (fun e => by have := (h.own.lt X e).1; omega)).set_ 1 v'
    simpa using this
  · exact own_but hown ((But.refl (fun b => b = X) w6).set_ (p := ⟨X, 1, none⟩) rfl v') fun b e hb => by have := (hown.lt b e).1; omega
theorem XS.laid {w5 wy : World} {X : Nat} {fa v : Value} {n : Nat} {xs : List Value} (h : XS w5 wy X fa v n xs) (o : Obj) : XS w5 (wy.alloc o) X fa v n xs :=
  ⟨Below.laid h.old o, h.bx.alloc o, h.own.alloc o, h.at_⟩

set_option maxHeartbeats 4000000 in
set_option maxRecDepth 100000 in
theorem formTwice_walk (sa sc : Value) (l : List Venn.Atom) (c : List Int) (th a b d : Int) (w : World) (ha : IsAtoms w sa l) (hc : IsInts w sc c) (hk : KindsOk w) (het : EtOk w) :
    Calls Tryd.prog 11 #[.agg #[sa, sc], .agg #[.int .i64 th, .int .i64 a, .int .i64 b, .int .i64 d]] w (Keeps (.bool true) w) := by
  obtain ⟨A, cA, rfl⟩ := ha.slice
  obtain ⟨C, cC, rfl, hrc, hlc1, hlc2⟩ := hc
  have HA := Lib.hid ha
  have HC := Lib.hid (show IsInts w (.slice C c.length cC) c from ⟨C, cC, rfl, hrc, hlc1, hlc2⟩)
  have HRC := Lib.hid hrc
  have HK := Lib.hid hk
  have HET := Lib.hid het
  clear ha hrc hk het hlc1 hlc2
  by_cases h1 : ¬ Venn.formHoldsChk ⟨l, c⟩ ⟨th, a, b, d⟩ = 0
  · have HX := Lib.hid (errV_ne h1)
    have HNV := Lib.hid (show negV ⟨[], []⟩ = noForm from rfl)
    have HNC := Lib.hid (show Venn.negChk ⟨[], []⟩ = 5 from rfl)
    clear h1
    go_enter Tryd.func11, Tryd.ntmps11
    go_wp2_with fail
    refine (form_Holds _ _ l c _ _ _ _ _ (HA.out.keep (by (repeat' (first | (with_reducible exact Below.refl _ _) | (with_reducible assumption) | (with_reducible refine Below.next ?_ (by with_reducible assumption)) | (with_reducible refine Below.drew ?_) | (with_reducible refine Below.laid ?_ _) | (with_reducible refine Below.setCell ?_ ?_ _) | (with_reducible refine size_of ?_) | (with_reducible refine Nat.le_succ_of_le ?_) | go_size)))) (HC.out.keep (by (repeat' (first | (with_reducible exact Below.refl _ _) | (with_reducible assumption) | (with_reducible refine Below.next ?_ (by with_reducible assumption)) | (with_reducible refine Below.drew ?_) | (with_reducible refine Below.laid ?_ _) | (with_reducible refine Below.setCell ?_ ?_ _) | (with_reducible refine size_of ?_) | (with_reducible refine Nat.le_succ_of_le ?_) | go_size)))) (HK.out.keep (by (repeat' (first | (with_reducible exact Below.refl _ _) | (with_reducible assumption) | (with_reducible refine Below.next ?_ (by with_reducible assumption)) | (with_reducible refine Below.drew ?_) | (with_reducible refine Below.laid ?_ _) | (with_reducible refine Below.setCell ?_ ?_ _) | (with_reducible refine size_of ?_) | (with_reducible refine Nat.le_succ_of_le ?_) | go_size))))).mono ?_
    rintro e w1 ⟨rfl, hb1⟩
    rw [HX.out]
    have hq1 : Below w.heap.size w w1 := by (repeat' (first | (with_reducible exact Below.refl _ _) | (with_reducible assumption) | (with_reducible refine Below.next ?_ (by with_reducible assumption)) | (with_reducible refine Below.drew ?_) | (with_reducible refine Below.laid ?_ _) | (with_reducible refine Below.setCell ?_ ?_ _) | (with_reducible refine size_of ?_) | (with_reducible refine Nat.le_succ_of_le ?_) | go_size))
    have hw1 : Below w.heap.size w w1 := hq1
    generalize Venn.formHoldsV ⟨l, c⟩ ⟨th, a, b, d⟩ = HV
    go_wp2_with fail
    refine (form_Negate _ _ [] [] _ (IsAtoms.nil _) (IsIntsNil _) (HK.out.keep (by (repeat' (first | (with_reducible exact Below.refl _ _) | (with_reducible assumption) | (with_reducible refine Below.next ?_ (by with_reducible assumption)) | (with_reducible refine Below.drew ?_) | (with_reducible refine Below.laid ?_ _) | (with_reducible refine Below.setCell ?_ ?_ _) | (with_reducible refine size_of ?_) | (with_reducible refine Nat.le_succ_of_le ?_) | go_size))))).mono ?_
    rintro e w2 ⟨A2, kA2, C2, kC2, rfl, hb2, hA2, hC2⟩
    rw [HNV.out, HNC.out]
    simp only [noForm, List.length_nil]
    go_wp2_with fail
    refine (vennsame_Error 5 5 _ (HET.out.keep (by (repeat' (first | (with_reducible exact Below.refl _ _) | (with_reducible assumption) | (with_reducible refine Below.next ?_ (by with_reducible assumption)) | (with_reducible refine Below.drew ?_) | (with_reducible refine Below.laid ?_ _) | (with_reducible refine Below.setCell ?_ ?_ _) | (with_reducible refine size_of ?_) | (with_reducible refine Nat.le_succ_of_le ?_) | go_size))))).mono ?_
    rintro e w3 ⟨rfl, hb3⟩
    go_wp2
    go_ret
    exact ⟨rfl, by (repeat' (first | (with_reducible exact Below.refl _ _) | (with_reducible assumption) | (with_reducible refine Below.next ?_ (by with_reducible assumption)) | (with_reducible refine Below.drew ?_) | (with_reducible refine Below.laid ?_ _) | (with_reducible refine Below.setCell ?_ ?_ _) | (with_reducible refine size_of ?_) | (with_reducible refine Nat.le_succ_of_le ?_) | go_size))⟩
  replace h1 := Decidable.not_not.1 h1
  have HX := Lib.hid (errV_zero h1)
  have hf : Venn.formChk ⟨l, c⟩ = 0 := by
    rw [Venn.formHoldsChk] at h1
    split at h1
    · assumption
    · contradiction
  have hwc : Venn.worldChk ⟨th, a, b, d⟩ = 0 := by rwa [Venn.formHoldsChk, if_pos hf] at h1
  obtain ⟨v, hv⟩ : ∃ v, Venn.formTrue ⟨l, c⟩ ⟨th, a, b, d⟩ = v := ⟨_, rfl⟩
  have HV := Lib.hid (show Venn.formHoldsV ⟨l, c⟩ ⟨th, a, b, d⟩ = v by rw [Venn.formHoldsV, if_pos h1, hv])
  by_cases h9 : 9 < c.length
  · have HNV := Lib.hid (show negV ⟨[], []⟩ = noForm from rfl)
    have HNC := Lib.hid (show Venn.negChk ⟨[], []⟩ = 5 from rfl)
    have hq : (9 : Int) < (c.length : Int) := by omega
    clear h1 hf hwc hv h9
    go_enter Tryd.func11, Tryd.ntmps11
    go_wp2_with fail
    refine (form_Holds _ _ l c _ _ _ _ _ (HA.out.keep (by (repeat' (first | (with_reducible exact Below.refl _ _) | (with_reducible assumption) | (with_reducible refine Below.next ?_ (by with_reducible assumption)) | (with_reducible refine Below.drew ?_) | (with_reducible refine Below.laid ?_ _) | (with_reducible refine Below.setCell ?_ ?_ _) | (with_reducible refine size_of ?_) | (with_reducible refine Nat.le_succ_of_le ?_) | go_size)))) (HC.out.keep (by (repeat' (first | (with_reducible exact Below.refl _ _) | (with_reducible assumption) | (with_reducible refine Below.next ?_ (by with_reducible assumption)) | (with_reducible refine Below.drew ?_) | (with_reducible refine Below.laid ?_ _) | (with_reducible refine Below.setCell ?_ ?_ _) | (with_reducible refine size_of ?_) | (with_reducible refine Nat.le_succ_of_le ?_) | go_size)))) (HK.out.keep (by (repeat' (first | (with_reducible exact Below.refl _ _) | (with_reducible assumption) | (with_reducible refine Below.next ?_ (by with_reducible assumption)) | (with_reducible refine Below.drew ?_) | (with_reducible refine Below.laid ?_ _) | (with_reducible refine Below.setCell ?_ ?_ _) | (with_reducible refine size_of ?_) | (with_reducible refine Nat.le_succ_of_le ?_) | go_size))))).mono ?_
    rintro e w1 ⟨rfl, hb1⟩
    rw [HX.out, HV.out]
    have hq1 : Below w.heap.size w w1 := by (repeat' (first | (with_reducible exact Below.refl _ _) | (with_reducible assumption) | (with_reducible refine Below.next ?_ (by with_reducible assumption)) | (with_reducible refine Below.drew ?_) | (with_reducible refine Below.laid ?_ _) | (with_reducible refine Below.setCell ?_ ?_ _) | (with_reducible refine size_of ?_) | (with_reducible refine Nat.le_succ_of_le ?_) | go_size))
    have hw1 : Below w.heap.size w w1 := hq1
    have BF := ((Blk.new w 41 #[.slice A l.length cA, .slice C c.length cC]).alloc _).keep hb1
    obtain ⟨⟨BF0, BF1⟩, _⟩ := BF.cells2
    have BFl := BF.lt
    go_wp2_with fail
    refine (form_Negate _ _ [] [] _ (IsAtoms.nil _) (IsIntsNil _) (HK.out.keep (by (repeat' (first | (with_reducible exact Below.refl _ _) | (with_reducible assumption) | (with_reducible refine Below.next ?_ (by with_reducible assumption)) | (with_reducible refine Below.drew ?_) | (with_reducible refine Below.laid ?_ _) | (with_reducible refine Below.setCell ?_ ?_ _) | (with_reducible refine size_of ?_) | (with_reducible refine Nat.le_succ_of_le ?_) | go_size))))).mono ?_
    rintro e w2 ⟨A2, kA2, C2, kC2, rfl, hb2, hA2, hC2⟩
    rw [HNV.out, HNC.out]
    simp only [noForm, List.length_nil]
    go_wp2_with fail
    refine (vennsame_Error 5 5 _ (HET.out.keep (by (repeat' (first | (with_reducible exact Below.refl _ _) | (with_reducible assumption) | (with_reducible refine Below.next ?_ (by with_reducible assumption)) | (with_reducible refine Below.drew ?_) | (with_reducible refine Below.laid ?_ _) | (with_reducible refine Below.setCell ?_ ?_ _) | (with_reducible refine size_of ?_) | (with_reducible refine Nat.le_succ_of_le ?_) | go_size))))).mono ?_
    rintro e w3 ⟨rfl, hb3⟩
    go_wp2
    go_ret
    exact ⟨rfl, by (repeat' (first | (with_reducible exact Below.refl _ _) | (with_reducible assumption) | (with_reducible refine Below.next ?_ (by with_reducible assumption)) | (with_reducible refine Below.drew ?_) | (with_reducible refine Below.laid ?_ _) | (with_reducible refine Below.setCell ?_ ?_ _) | (with_reducible refine size_of ?_) | (with_reducible refine Nat.le_succ_of_le ?_) | go_size))⟩
  have hq : ¬ (9 : Int) < (c.length : Int) := by omega
  obtain ⟨⟨hl0, hl6⟩, ⟨hc0, hc20⟩, _⟩ := form_small hf
  have hn1 : Venn.negChk ⟨l, c⟩ = 0 := by rw [Venn.negChk, if_pos hf, if_neg (show ¬ c.length = 20 by omega)]
  have hnf1 := Venn.negF_chk hf (show c.length < 20 by omega)
  have hn2 : Venn.negChk (Venn.negF ⟨l, c⟩) = 0 := by rw [Venn.negChk, if_pos hnf1, if_neg (by simp [Venn.negF]; omega)]
  have hnf2 := Venn.negF_chk hnf1 (show (Venn.negF ⟨l, c⟩).code.length < 20 by simp [Venn.negF]; omega)
  have HN1 := Lib.hid (show negV ⟨l, c⟩ = Venn.negF ⟨l, c⟩ by rw [negV, if_pos hn1])
  have HN2 := Lib.hid (show negV (Venn.negF ⟨l, c⟩) = Venn.negF (Venn.negF ⟨l, c⟩) by rw [negV, if_pos hn2])
  have hk2 : Venn.formHoldsChk (Venn.negF (Venn.negF ⟨l, c⟩)) ⟨th, a, b, d⟩ = 0 := by rw [Venn.formHoldsChk, if_pos hnf2, hwc]
  have HV2 := Lib.hid (show Venn.formHoldsV (Venn.negF (Venn.negF ⟨l, c⟩)) ⟨th, a, b, d⟩ = v by rw [Venn.formHoldsV, if_pos hk2, Venn.negF_true hnf1, Venn.negF_true hf, hv, Bool.not_not])
  have HE1 := Lib.hid (errV_zero hn1)
  have HE2 := Lib.hid (errV_zero hn2)
  have HE3 := Lib.hid (errV_zero hk2)
  have hk3 : Venn.formHoldsChk ⟨l, c ++ c ++ [13]⟩ ⟨th, a, b, d⟩ = 0 := by
    rw [Venn.formHoldsChk, if_pos (show Venn.formChk ⟨l, c ++ c ++ [13]⟩ = 0 from Venn.thenF_chk hf (by show c.length ≤ 9; omega)), hwc]
  have HV3 := Lib.hid (show Venn.formHoldsV ⟨l, c ++ c ++ [13]⟩ ⟨th, a, b, d⟩ = true by
    rw [Venn.formHoldsV, if_pos hk3]; exact Venn.thenF_true hf _)
  have HE4 := Lib.hid (errV_zero hk3)
  generalize hg1 : Venn.negF ⟨l, c⟩ = N1 at HN1 HN2 HE2 HV2 HE3
  generalize hg2 : Venn.negF N1 = N2 at HN2 HV2 HE3
  obtain ⟨l1, c1⟩ := N1
  obtain ⟨l2, c2⟩ := N2
  clear h1 hf hwc hv h9 hn1 hn2 hnf1 hnf2 hk2 hk3 hg1 hg2
  go_enter Tryd.func11, Tryd.ntmps11
  go_wp2_with fail
  refine (form_Holds _ _ l c _ _ _ _ _ (HA.out.keep (by (repeat' (first | (with_reducible exact Below.refl _ _) | (with_reducible assumption) | (with_reducible refine Below.next ?_ (by with_reducible assumption)) | (with_reducible refine Below.drew ?_) | (with_reducible refine Below.laid ?_ _) | (with_reducible refine Below.setCell ?_ ?_ _) | (with_reducible refine size_of ?_) | (with_reducible refine Nat.le_succ_of_le ?_) | go_size)))) (HC.out.keep (by (repeat' (first | (with_reducible exact Below.refl _ _) | (with_reducible assumption) | (with_reducible refine Below.next ?_ (by with_reducible assumption)) | (with_reducible refine Below.drew ?_) | (with_reducible refine Below.laid ?_ _) | (with_reducible refine Below.setCell ?_ ?_ _) | (with_reducible refine size_of ?_) | (with_reducible refine Nat.le_succ_of_le ?_) | go_size)))) (HK.out.keep (by (repeat' (first | (with_reducible exact Below.refl _ _) | (with_reducible assumption) | (with_reducible refine Below.next ?_ (by with_reducible assumption)) | (with_reducible refine Below.drew ?_) | (with_reducible refine Below.laid ?_ _) | (with_reducible refine Below.setCell ?_ ?_ _) | (with_reducible refine size_of ?_) | (with_reducible refine Nat.le_succ_of_le ?_) | go_size))))).mono ?_
  rintro e w1 ⟨rfl, hb1⟩
  rw [HX.out, HV.out]
  have hq1 : Below w.heap.size w w1 := by (repeat' (first | (with_reducible exact Below.refl _ _) | (with_reducible assumption) | (with_reducible refine Below.next ?_ (by with_reducible assumption)) | (with_reducible refine Below.drew ?_) | (with_reducible refine Below.laid ?_ _) | (with_reducible refine Below.setCell ?_ ?_ _) | (with_reducible refine size_of ?_) | (with_reducible refine Nat.le_succ_of_le ?_) | go_size))
  have hw1 : Below w.heap.size w w1 := hq1
  have BF := ((Blk.new w 41 #[.slice A l.length cA, .slice C c.length cC]).alloc _).keep hb1
  have BW := (Blk.newAt (w := w.alloc (.cells #[.slice A l.length cA, .slice C c.length cC] 41)) (g := w.heap.size + 1) (by simp) 44 #[.int .i64 th, .int .i64 a, .int .i64 b, .int .i64 d]).keep hb1
  obtain ⟨⟨BF0, BF1⟩, _⟩ := BF.cells2
  have BFl := BF.lt
  obtain ⟨BW0, BW1, BW2, BW3⟩ := BW.cells4
  have BWl := BW.lt
  go_wp2_with fail
  refine (form_Negate _ _ l c _ (HA.out.keep (by (repeat' (first | (with_reducible exact Below.refl _ _) | (with_reducible assumption) | (with_reducible refine Below.next ?_ (by with_reducible assumption)) | (with_reducible refine Below.drew ?_) | (with_reducible refine Below.laid ?_ _) | (with_reducible refine Below.setCell ?_ ?_ _) | (with_reducible refine size_of ?_) | (with_reducible refine Nat.le_succ_of_le ?_) | go_size)))) (HC.out.keep (by (repeat' (first | (with_reducible exact Below.refl _ _) | (with_reducible assumption) | (with_reducible refine Below.next ?_ (by with_reducible assumption)) | (with_reducible refine Below.drew ?_) | (with_reducible refine Below.laid ?_ _) | (with_reducible refine Below.setCell ?_ ?_ _) | (with_reducible refine size_of ?_) | (with_reducible refine Nat.le_succ_of_le ?_) | go_size)))) (HK.out.keep (by (repeat' (first | (with_reducible exact Below.refl _ _) | (with_reducible assumption) | (with_reducible refine Below.next ?_ (by with_reducible assumption)) | (with_reducible refine Below.drew ?_) | (with_reducible refine Below.laid ?_ _) | (with_reducible refine Below.setCell ?_ ?_ _) | (with_reducible refine size_of ?_) | (with_reducible refine Nat.le_succ_of_le ?_) | go_size))))).mono ?_
  rintro e w2 ⟨A2, kA2, C2, kC2, rfl, hb2, hA2, hC2⟩
  rw [HN1.out] at hA2 hC2 ⊢
  rw [HE1.out]
  simp only at hA2 hC2 ⊢
  have hw2 := Below.next hw1 hb2
  have BG := Blk.new w2 41 #[.slice A2 l1.length kA2, .slice C2 c1.length kC2]
  clear BF0 BF1 BFl BW0 BW1 BW2 BW3 BWl
  replace BF := BF.keep hb2
  replace BW := BW.keep hb2
  obtain ⟨⟨g0, g1⟩, _⟩ := BG.cells2
  go_wp2_with fail
  refine (form_Negate _ _ l1 c1 _ (hA2.keep (by (repeat' (first | (with_reducible exact Below.refl _ _) | (with_reducible assumption) | (with_reducible refine Below.next ?_ (by with_reducible assumption)) | (with_reducible refine Below.drew ?_) | (with_reducible refine Below.laid ?_ _) | (with_reducible refine Below.setCell ?_ ?_ _) | (with_reducible refine size_of ?_) | (with_reducible refine Nat.le_succ_of_le ?_) | go_size)))) (hC2.keep (by (repeat' (first | (with_reducible exact Below.refl _ _) | (with_reducible assumption) | (with_reducible refine Below.next ?_ (by with_reducible assumption)) | (with_reducible refine Below.drew ?_) | (with_reducible refine Below.laid ?_ _) | (with_reducible refine Below.setCell ?_ ?_ _) | (with_reducible refine size_of ?_) | (with_reducible refine Nat.le_succ_of_le ?_) | go_size)))) (HK.out.keep (by (repeat' (first | (with_reducible exact Below.refl _ _) | (with_reducible assumption) | (with_reducible refine Below.next ?_ (by with_reducible assumption)) | (with_reducible refine Below.drew ?_) | (with_reducible refine Below.laid ?_ _) | (with_reducible refine Below.setCell ?_ ?_ _) | (with_reducible refine size_of ?_) | (with_reducible refine Nat.le_succ_of_le ?_) | go_size))))).mono ?_
  rintro e w3 ⟨A3, kA3, C3, kC3, rfl, hb3, hA3, hC3⟩
  rw [HN2.out] at hA3 hC3 ⊢
  rw [HE2.out]
  simp only at hA3 hC3 ⊢
  have hq3 : Below w2.heap.size w2 w3 := by (repeat' (first | (with_reducible exact Below.refl _ _) | (with_reducible assumption) | (with_reducible refine Below.next ?_ (by with_reducible assumption)) | (with_reducible refine Below.drew ?_) | (with_reducible refine Below.laid ?_ _) | (with_reducible refine Below.setCell ?_ ?_ _) | (with_reducible refine size_of ?_) | (with_reducible refine Nat.le_succ_of_le ?_) | go_size))
  have hw3 := Below.next hw2 hq3
  clear g0 g1
  replace BF := BF.keep hq3
  replace BW := BW.keep hq3
  have BH := Blk.new w3 41 #[.slice A3 l2.length kA3, .slice C3 c2.length kC3]
  obtain ⟨⟨g0, g1⟩, _⟩ := BH.cells2
  obtain ⟨⟨BF0, BF1⟩, _⟩ := BF.cells2
  have BFl := BF.lt
  obtain ⟨BW0, BW1, BW2, BW3⟩ := BW.cells4
  have BWl := BW.lt
  go_wp2_with fail
  refine (form_Holds _ _ l2 c2 _ _ _ _ _ (hA3.keep (by (repeat' (first | (with_reducible exact Below.refl _ _) | (with_reducible assumption) | (with_reducible refine Below.next ?_ (by with_reducible assumption)) | (with_reducible refine Below.drew ?_) | (with_reducible refine Below.laid ?_ _) | (with_reducible refine Below.setCell ?_ ?_ _) | (with_reducible refine size_of ?_) | (with_reducible refine Nat.le_succ_of_le ?_) | go_size)))) (hC3.keep (by (repeat' (first | (with_reducible exact Below.refl _ _) | (with_reducible assumption) | (with_reducible refine Below.next ?_ (by with_reducible assumption)) | (with_reducible refine Below.drew ?_) | (with_reducible refine Below.laid ?_ _) | (with_reducible refine Below.setCell ?_ ?_ _) | (with_reducible refine size_of ?_) | (with_reducible refine Nat.le_succ_of_le ?_) | go_size)))) (HK.out.keep (by (repeat' (first | (with_reducible exact Below.refl _ _) | (with_reducible assumption) | (with_reducible refine Below.next ?_ (by with_reducible assumption)) | (with_reducible refine Below.drew ?_) | (with_reducible refine Below.laid ?_ _) | (with_reducible refine Below.setCell ?_ ?_ _) | (with_reducible refine size_of ?_) | (with_reducible refine Nat.le_succ_of_le ?_) | go_size))))).mono ?_
  rintro e w4 ⟨rfl, hb4⟩
  rw [HE3.out, HV2.out]
  have hq4 : Below w3.heap.size w3 w4 := by (repeat' (first | (with_reducible exact Below.refl _ _) | (with_reducible assumption) | (with_reducible refine Below.next ?_ (by with_reducible assumption)) | (with_reducible refine Below.drew ?_) | (with_reducible refine Below.laid ?_ _) | (with_reducible refine Below.setCell ?_ ?_ _) | (with_reducible refine size_of ?_) | (with_reducible refine Nat.le_succ_of_le ?_) | go_size))
  have hw4 := Below.next hw3 hq4
  clear g0 g1 BF0 BF1 BFl BW0 BW1 BW2 BW3 BWl
  replace BF := BF.keep hq4
  replace BW := BW.keep hq4
  obtain ⟨⟨BF0, BF1⟩, _⟩ := BF.cells2
  have BFl := BF.lt
  obtain ⟨BW0, BW1, BW2, BW3⟩ := BW.cells4
  have BWl := BW.lt
  have BX := Blk.new w4 41 #[.slice none 0 0, .slice none 0 0]
  have x0 := BX.frozen 0
  clear hb1 hb2 hb3 hb4 hq1 hq3 hq4 hA2 hA3 hC2 hC3 BG BH HN1 HN2 HE1 HE2 HE3 HV2
  have x1 := BX.frozen 1
  go_upto_region 14 with (fail)
  have XX : XS w4 (w4.alloc (.cells #[.slice A l.length cA, .slice none 0 0] 41)) w4.heap.size (.slice A l.length cA) (.slice none 0 0) 0 [] :=
    ⟨(Below.refl _ _).alloc (Nat.le_refl _) _, Blk.new _ _ _, World.ownsRow_nil _ _ _ _, rfl⟩
  clear x0 x1 BX BF0 BF1 BFl BW0 BW1 BW2 BW3 BWl
  revert XX
  generalize World.alloc _ _ = wa
  intro XX
  have hqa := XX.old
  have BF4 := BF
  have BW4' := BW
  replace BF := BF.keep hqa
  have hwa := Below.next hw4 hqa
  obtain ⟨⟨x0, x1⟩, x2, x3⟩ := XX.bx.cells2
  have xl := XX.bx.lt
  obtain ⟨⟨BF0, BF1⟩, _⟩ := BF.cells2
  have BFl := BF.lt
  have hRa : Rd wa C (c.map (Value.int .i64)) := HRC.out.keep hwa
  go_wp2_with (at_builtin; refine wpList_appR _ rfl _ _ rfl (w4.heap.size + 1) _ 0 _ rfl XX.own C cC c rfl hRa (by omega) (by omega) ?_)
  intro v1 wb hown1 hgr1
  obtain ⟨ga, ka, qa, rfl, _⟩ := own_cons hown1 hc0
  have XY := XX.append hgr1 hown1
  have xf := XX.bx.but (But.of_grown hgr1) (fun e => by simp [Value.ownBlock] at e)
  obtain ⟨⟨y0, y1⟩, y2, y3⟩ := xf.cells2
  have yl := xf.lt
  go_upto_region 15 with (fail)
  clear x0 x1 x2 x3 xl y0 y1 y2 y3 yl xf XX hRa BF0 BF1 BFl
  revert XY
  generalize World.setCell _ _ _ = wc
  intro XX
  have hqc := XX.old
  have hwc' := Below.next hw4 hqc
  have BF := BF4.keep hqc
  obtain ⟨⟨BF0, BF1⟩, _⟩ := BF.cells2
  have BFl := BF.lt
  obtain ⟨⟨x0, x1⟩, x2, x3⟩ := XX.bx.cells2
  have xl := XX.bx.lt
  have hRc : Rd wc C (c.map (Value.int .i64)) := HRC.out.keep hwc'
  go_wp2_with (at_builtin; refine wpList_appR _ rfl _ _ rfl (w4.heap.size + 1) _ c.length _ rfl XX.own C cC c rfl hRc (by omega) (by omega) ?_)
  intro v2 wd hown2 hgr2
  obtain ⟨gb, kb, qb, rfl, _⟩ := own_cons hown2 (by omega)
  have XY := XX.append hgr2 hown2
  have hgc := (XX.own.lt ga rfl).1
  have xf := XX.bx.but (But.of_grown hgr2) (fun e => by simp [Value.ownBlock] at e; omega)
  obtain ⟨⟨y0, y1⟩, y2, y3⟩ := xf.cells2
  have yl := xf.lt
  go_upto_region 16 with (fail)
  clear x0 x1 x2 x3 xl y0 y1 y2 y3 yl xf XX hRc BF0 BF1 BFl BF hqc hwc' hgc
  revert XY
  generalize World.setCell _ _ _ = we
  intro XX
  have hqc := XX.old
  have hwc' := Below.next hw4 hqc
  obtain ⟨⟨x0, x1⟩, x2, x3⟩ := XX.bx.cells2
  have xl := XX.bx.lt
  have XL := XX.laid (.cells #[.int .i64 13] 3)
  go_wp2_with (at_builtin; refine wpList_app1 _ rfl _ _ rfl (w4.heap.size + 1) _ (c.length + c.length) _ rfl XL.own we.heap.size 1 13 rfl ?hy1 (by omega) (by simp; omega) ?_)
  case hy1 => exact (Blk.new we 3 #[.int .i64 13]).cell 0
  intro v3 wf hown3 hgr3
  obtain ⟨gc, kc, qc, rfl, _⟩ := own_cons hown3 (by omega)
  have XY := XL.append hgr3 hown3
  have hgc := (XX.own.lt gb rfl).1
  have xf := XL.bx.but (But.of_grown hgr3) (fun e => by simp [Value.ownBlock] at e; omega)
  obtain ⟨⟨y0, y1⟩, y2, y3⟩ := xf.cells2
  have yl := xf.lt
  go_upto_region 17 with (fail)
  clear x0 x1 x2 x3 xl y0 y1 y2 y3 yl xf XX XL hqc hwc' hgc hown1 hown2 hown3 hgr1 hgr2 hgr3
  revert XY
  generalize World.setCell _ _ _ = wg
  intro XX
  have hqc := XX.old
  have hwg := Below.next hw4 hqc
  have BW := BW4'.keep hqc
  obtain ⟨⟨x0, x1⟩, _⟩ := XX.bx.cells2
  have xl := XX.bx.lt
  obtain ⟨BW0, BW1, BW2, BW3⟩ := BW.cells4
  have BWl := BW.lt
  have hII : IsInts wg (.slice (some ⟨gc, 0, none⟩) (c.length + c.length + 1) kc) (c ++ c ++ [13]) := IsInts.of_own (by simpa using XX.own)
  go_wp2_with fail
  refine (form_Holds _ _ l (c ++ c ++ [13]) _ _ _ _ _ (HA.out.keep (by (repeat' (first | (with_reducible exact Below.refl _ _) | (with_reducible assumption) | (with_reducible refine Below.next ?_ (by with_reducible assumption)) | (with_reducible refine Below.drew ?_) | (with_reducible refine Below.laid ?_ _) | (with_reducible refine Below.setCell ?_ ?_ _) | (with_reducible refine size_of ?_) | (with_reducible refine Nat.le_succ_of_le ?_) | go_size)))) hII (HK.out.keep (by (repeat' (first | (with_reducible exact Below.refl _ _) | (with_reducible assumption) | (with_reducible refine Below.next ?_ (by with_reducible assumption)) | (with_reducible refine Below.drew ?_) | (with_reducible refine Below.laid ?_ _) | (with_reducible refine Below.setCell ?_ ?_ _) | (with_reducible refine size_of ?_) | (with_reducible refine Nat.le_succ_of_le ?_) | go_size))))).mono ?_
  rintro e w9 ⟨rfl, hb9⟩
  rw [HE4.out, HV3.out]
  go_wp2
  go_ret
  exact ⟨rfl, by (repeat' (first | (with_reducible exact Below.refl _ _) | (with_reducible assumption) | (with_reducible refine Below.next ?_ (by with_reducible assumption)) | (with_reducible refine Below.drew ?_) | (with_reducible refine Below.laid ?_ _) | (with_reducible refine Below.setCell ?_ ?_ _) | (with_reducible refine size_of ?_) | (with_reducible refine Nat.le_succ_of_le ?_) | go_size))⟩
end Go.Proofs.YtnjamgmaclmlpaaDoor
