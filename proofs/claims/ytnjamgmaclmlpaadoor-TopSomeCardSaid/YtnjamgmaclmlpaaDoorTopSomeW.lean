/-
  THE WALK of venntop.TopSome.
-/
import Derived.Test.YtnjamgmaclmlpaaDoorTopOne
import Derived.Test.YtnjamgmaclmlpaaDoorSomeFirst
import Derived.Test.YtnjamgmaclmlpaaDoorFormHolds
import Derived.Test.YtnjamgmaclmlpaaDoorRefFields
import Derived.Test.YtnjamgmaclmlpaaDoorFields
import Derived.Test.YtnjamgmaclmlpaaDoorWays
import Derived.Test.YtnjamgmaclmlpaaDoorVennP2
import Derived.Test.YtnjamgmaclmlpaaDoorLawF
namespace Go.Proofs.YtnjamgmaclmlpaaDoor
open Go.ChangeShapes Go.WideShapes Go.ChangeAt Go.RowKit

set_option maxHeartbeats 4000000 in
set_option maxRecDepth 100000 in
theorem topSome_walk (sa sc : Value) (l : List Venn.Atom) (c : List Int) (th a b d : Int) (w : World) (ha : IsAtoms w sa l) (hc : IsInts w sc c) (hk : KindsOk w) :
    Calls Tryd.prog 4 #[.agg #[sa, sc], .agg #[.int .i64 th, .int .i64 a, .int .i64 b, .int .i64 d]] w (Keeps (.bool true) w) := by
  obtain ⟨A, cA, rfl⟩ := ha.slice
  obtain ⟨C, cC, rfl⟩ := hc.slice
  have HA := Lib.hid ha
  have HC := Lib.hid hc
  have HK := Lib.hid hk
  clear ha hc hk
  go_enter Tryd.func4, Tryd.ntmps4
  go_wp2_with fail
  refine (venntop_one _ (HK.out.keep (by (repeat' (first | (with_reducible exact Below.refl _ _) | (with_reducible assumption) | (with_reducible refine Below.next ?_ (by with_reducible assumption)) | (with_reducible refine Below.drew ?_) | (with_reducible refine Below.laid ?_ _) | (with_reducible refine Below.setCell ?_ ?_ _) | (with_reducible refine size_of ?_) | (with_reducible refine Nat.le_succ_of_le ?_) | go_size))))).mono ?_
  rintro e w1 ⟨rfl, hb1⟩
  have hq1 : Below w.heap.size w w1 := by (repeat' (first | (with_reducible exact Below.refl _ _) | (with_reducible assumption) | (with_reducible refine Below.next ?_ (by with_reducible assumption)) | (with_reducible refine Below.drew ?_) | (with_reducible refine Below.laid ?_ _) | (with_reducible refine Below.setCell ?_ ?_ _) | (with_reducible refine size_of ?_) | (with_reducible refine Nat.le_succ_of_le ?_) | go_size))
  have hw1 : Below w.heap.size w w1 := hq1
  have BF := ((Blk.new w 41 #[.slice A l.length cA, .slice C c.length cC]).alloc _).keep hb1
  have BW := (Blk.newAt (w := w.alloc (.cells #[.slice A l.length cA, .slice C c.length cC] 41)) (g := w.heap.size + 1) (by simp) 44 #[.int .i64 th, .int .i64 a, .int .i64 b, .int .i64 d]).keep hb1
  obtain ⟨⟨BF0, BF1⟩, _⟩ := BF.cells2
  have BFl := BF.lt
  obtain ⟨BW0, BW1, BW2, BW3⟩ := BW.cells4
  have BWl := BW.lt
  by_cases hw : ¬ Venn.worldChk ⟨th, a, b, d⟩ = 0
  · have HWX := Lib.hid (errV_ne hw)
    have HFV := Lib.hid (show fieldsV ⟨th, a, b, d⟩ = [0, 0, 0, 0, 0, 0, 0, 0] by rw [fieldsV, if_neg hw])
    clear hw
    go_wp2_with fail
    refine (fields_Of _ _ _ _ _).mono ?_
    rintro e w2 ⟨rfl, hb2⟩
    rw [HFV.out, HWX.out]
    have hq2 : Below w1.heap.size w1 w2 := by (repeat' (first | (with_reducible exact Below.refl _ _) | (with_reducible assumption) | (with_reducible refine Below.next ?_ (by with_reducible assumption)) | (with_reducible refine Below.drew ?_) | (with_reducible refine Below.laid ?_ _) | (with_reducible refine Below.setCell ?_ ?_ _) | (with_reducible refine size_of ?_) | (with_reducible refine Nat.le_succ_of_le ?_) | go_size))
    have hw2 : Below w.heap.size w w2 := Below.next hw1 hq2
    simp only [cells, List.map]
    go_wp2
    go_ret
    exact ⟨rfl, by (repeat' (first | (with_reducible exact Below.refl _ _) | (with_reducible assumption) | (with_reducible refine Below.next ?_ (by with_reducible assumption)) | (with_reducible refine Below.drew ?_) | (with_reducible refine Below.laid ?_ _) | (with_reducible refine Below.setCell ?_ ?_ _) | (with_reducible refine size_of ?_) | (with_reducible refine Nat.le_succ_of_le ?_) | go_size))⟩
  replace hw := Decidable.not_not.1 hw
  have HWX := Lib.hid (errV_zero hw)
  obtain ⟨m0, m1, m2, m3, m4, m5, m6, m7, hm⟩ : ∃ m0 m1 m2 m3 m4 m5 m6 m7 : Int, Venn.fieldsOf ⟨th, a, b, d⟩ = [m0, m1, m2, m3, m4, m5, m6, m7] := ⟨_, _, _, _, _, _, _, _, rfl⟩
  have HM := Lib.hid (show fieldsV ⟨th, a, b, d⟩ = [m0, m1, m2, m3, m4, m5, m6, m7] by rw [fieldsV, if_pos hw, hm])
  have hcc : Venn.countsChk [m0, m1, m2, m3, m4, m5, m6, m7] = 0 := by rw [← hm]; exact Venn.fieldsOf_chk hw
  have hmf := Venn.made_fields hw
  have HSM := Lib.hid (fun (f : Venn.Form) (hf : Venn.formChk f = 0) => Venn.firstSet_made hf hw)
  rw [hm] at hmf HSM
  have HWV := Lib.hid (fun W => fields_World m0 m1 m2 m3 m4 m5 m6 m7 W)
  rw [show Venn.worldOfV [m0, m1, m2, m3, m4, m5, m6, m7] = Venn.made [m0, m1, m2, m3, m4, m5, m6, m7] from if_pos hcc, errV_zero hcc] at HWV
  generalize Venn.made [m0, m1, m2, m3, m4, m5, m6, m7] = M at HWV hmf HSM
  obtain ⟨mt, ma, mb, mc⟩ := M
  simp only at HWV
  have HW := Lib.hid hw
  have HMC := Lib.hid hmf.1
  clear hw hm hcc hmf
  go_wp2_with fail
  refine (fields_Of _ _ _ _ _).mono ?_
  rintro e w2 ⟨rfl, hb2⟩
  rw [HM.out, HWX.out]
  have hq2 : Below w1.heap.size w1 w2 := by (repeat' (first | (with_reducible exact Below.refl _ _) | (with_reducible assumption) | (with_reducible refine Below.next ?_ (by with_reducible assumption)) | (with_reducible refine Below.drew ?_) | (with_reducible refine Below.laid ?_ _) | (with_reducible refine Below.setCell ?_ ?_ _) | (with_reducible refine size_of ?_) | (with_reducible refine Nat.le_succ_of_le ?_) | go_size))
  have hw2 : Below w.heap.size w w2 := Below.next hw1 hq2
  replace BF := BF.keep hq2
  try clear BF0 BF1 BFl
  obtain ⟨⟨BF0, BF1⟩, _⟩ := BF.cells2
  have BFl := BF.lt
  replace BW := BW.keep hq2
  try clear BW0 BW1 BW2 BW3 BWl
  obtain ⟨BW0, BW1, BW2, BW3⟩ := BW.cells4
  have BWl := BW.lt
  simp only [cells, List.map]
  go_wp2_with fail
  refine (HWV.out _).mono ?_
  rintro e w3 ⟨rfl, hb3⟩
  have hq3 : Below w2.heap.size w2 w3 := by (repeat' (first | (with_reducible exact Below.refl _ _) | (with_reducible assumption) | (with_reducible refine Below.next ?_ (by with_reducible assumption)) | (with_reducible refine Below.drew ?_) | (with_reducible refine Below.laid ?_ _) | (with_reducible refine Below.setCell ?_ ?_ _) | (with_reducible refine size_of ?_) | (with_reducible refine Nat.le_succ_of_le ?_) | go_size))
  have hw3 : Below w.heap.size w w3 := Below.next hw2 hq3
  have BX : Blk (w3.alloc (.cells #[.int .i64 mt, .int .i64 ma, .int .i64 mb, .int .i64 mc] 44)) w3.heap.size 44 #[.int .i64 mt, .int .i64 ma, .int .i64 mb, .int .i64 mc] := Blk.new _ _ _
  have hqx : Below w2.heap.size w2 (w3.alloc (.cells #[.int .i64 mt, .int .i64 ma, .int .i64 mb, .int .i64 mc] 44)) := by (repeat' (first | (with_reducible exact Below.refl _ _) | (with_reducible assumption) | (with_reducible refine Below.next ?_ (by with_reducible assumption)) | (with_reducible refine Below.drew ?_) | (with_reducible refine Below.laid ?_ _) | (with_reducible refine Below.setCell ?_ ?_ _) | (with_reducible refine size_of ?_) | (with_reducible refine Nat.le_succ_of_le ?_) | go_size))
  clear BF0 BF1 BFl BW0 BW1 BW2 BW3 BWl hqx
  replace BF := BF.keep hq3
  replace BW := BW.keep hq3
  obtain ⟨⟨BF0, BF1⟩, _⟩ := BF.cells2
  have BFl := BF.lt
  obtain ⟨BW0, BW1, BW2, BW3⟩ := BW.cells4
  have BWl := BW.lt
  by_cases hf : ¬ Venn.formChk ⟨l, c⟩ = 0
  · have HS1 := Lib.hid (show errV (Venn.someChk ⟨l, c⟩ 2 ⟨th, a, b, d⟩) = .iface 101 (.int .i64 (Venn.formChk ⟨l, c⟩)) by rw [Venn.someChk, if_neg hf, errV_ne hf])
    have HS2 := Lib.hid (show errV (Venn.someChk ⟨l, c⟩ 2 ⟨mt, ma, mb, mc⟩) = .iface 101 (.int .i64 (Venn.formChk ⟨l, c⟩)) by rw [Venn.someChk, if_neg hf, errV_ne hf])
    clear hf
    go_wp2_with fail
    refine (some_Is _ _ l c _ _ _ _ _ _ (HA.out.keep (by (repeat' (first | (with_reducible exact Below.refl _ _) | (with_reducible assumption) | (with_reducible refine Below.next ?_ (by with_reducible assumption)) | (with_reducible refine Below.drew ?_) | (with_reducible refine Below.laid ?_ _) | (with_reducible refine Below.setCell ?_ ?_ _) | (with_reducible refine size_of ?_) | (with_reducible refine Nat.le_succ_of_le ?_) | go_size)))) (HC.out.keep (by (repeat' (first | (with_reducible exact Below.refl _ _) | (with_reducible assumption) | (with_reducible refine Below.next ?_ (by with_reducible assumption)) | (with_reducible refine Below.drew ?_) | (with_reducible refine Below.laid ?_ _) | (with_reducible refine Below.setCell ?_ ?_ _) | (with_reducible refine size_of ?_) | (with_reducible refine Nat.le_succ_of_le ?_) | go_size)))) (HK.out.keep (by (repeat' (first | (with_reducible exact Below.refl _ _) | (with_reducible assumption) | (with_reducible refine Below.next ?_ (by with_reducible assumption)) | (with_reducible refine Below.drew ?_) | (with_reducible refine Below.laid ?_ _) | (with_reducible refine Below.setCell ?_ ?_ _) | (with_reducible refine size_of ?_) | (with_reducible refine Nat.le_succ_of_le ?_) | go_size))))).mono ?_
    rintro e w4 ⟨rfl, hb4⟩
    rw [HS1.out]
    have hq4 : Below w3.heap.size w3 w4 := by (repeat' (first | (with_reducible exact Below.refl _ _) | (with_reducible assumption) | (with_reducible refine Below.next ?_ (by with_reducible assumption)) | (with_reducible refine Below.drew ?_) | (with_reducible refine Below.laid ?_ _) | (with_reducible refine Below.setCell ?_ ?_ _) | (with_reducible refine size_of ?_) | (with_reducible refine Nat.le_succ_of_le ?_) | go_size))
    have hw4 : Below w.heap.size w w4 := Below.next hw3 hq4
    replace BF := BF.keep hq4
    try clear BF0 BF1 BFl
    obtain ⟨⟨BF0, BF1⟩, _⟩ := BF.cells2
    have BFl := BF.lt
    replace BX := BX.keep hb4
    obtain ⟨BX0, BX1, BX2, BX3⟩ := BX.cells4
    have BXl := BX.lt
    go_wp2_with fail
    refine (some_Is _ _ l c _ _ _ _ _ _ (HA.out.keep (by (repeat' (first | (with_reducible exact Below.refl _ _) | (with_reducible assumption) | (with_reducible refine Below.next ?_ (by with_reducible assumption)) | (with_reducible refine Below.drew ?_) | (with_reducible refine Below.laid ?_ _) | (with_reducible refine Below.setCell ?_ ?_ _) | (with_reducible refine size_of ?_) | (with_reducible refine Nat.le_succ_of_le ?_) | go_size)))) (HC.out.keep (by (repeat' (first | (with_reducible exact Below.refl _ _) | (with_reducible assumption) | (with_reducible refine Below.next ?_ (by with_reducible assumption)) | (with_reducible refine Below.drew ?_) | (with_reducible refine Below.laid ?_ _) | (with_reducible refine Below.setCell ?_ ?_ _) | (with_reducible refine size_of ?_) | (with_reducible refine Nat.le_succ_of_le ?_) | go_size)))) (HK.out.keep (by (repeat' (first | (with_reducible exact Below.refl _ _) | (with_reducible assumption) | (with_reducible refine Below.next ?_ (by with_reducible assumption)) | (with_reducible refine Below.drew ?_) | (with_reducible refine Below.laid ?_ _) | (with_reducible refine Below.setCell ?_ ?_ _) | (with_reducible refine size_of ?_) | (with_reducible refine Nat.le_succ_of_le ?_) | go_size))))).mono ?_
    rintro e w5 ⟨rfl, hb5⟩
    rw [HS2.out]
    have hq5 : Below w4.heap.size w4 w5 := by (repeat' (first | (with_reducible exact Below.refl _ _) | (with_reducible assumption) | (with_reducible refine Below.next ?_ (by with_reducible assumption)) | (with_reducible refine Below.drew ?_) | (with_reducible refine Below.laid ?_ _) | (with_reducible refine Below.setCell ?_ ?_ _) | (with_reducible refine size_of ?_) | (with_reducible refine Nat.le_succ_of_le ?_) | go_size))
    have hw5 : Below w.heap.size w w5 := Below.next hw4 hq5
    go_wp2
    go_ret
    exact ⟨rfl, by (repeat' (first | (with_reducible exact Below.refl _ _) | (with_reducible assumption) | (with_reducible refine Below.next ?_ (by with_reducible assumption)) | (with_reducible refine Below.drew ?_) | (with_reducible refine Below.laid ?_ _) | (with_reducible refine Below.setCell ?_ ?_ _) | (with_reducible refine size_of ?_) | (with_reducible refine Nat.le_succ_of_le ?_) | go_size))⟩
  replace hf := Decidable.not_not.1 hf
  have HSW := Lib.hid (show errV (Venn.someChk ⟨l, c⟩ 2 ⟨th, a, b, d⟩) = .nilIface by rw [Venn.someChk, if_pos hf, if_pos (by decide), HW.out]; rfl)
  have HSX := Lib.hid (show errV (Venn.someChk ⟨l, c⟩ 2 ⟨mt, ma, mb, mc⟩) = .nilIface by rw [Venn.someChk, if_pos hf, if_pos (by decide), HMC.out]; rfl)
  have hIW : someIsV l c 2 th a b d = decide (0 ≤ Venn.firstSet ⟨l, c⟩ 2 ⟨th, a, b, d⟩ true) := by rw [someIsV, if_pos (by rw [Venn.someChk, if_pos hf, if_pos (by decide), HW.out])]
  have hIX : someIsV l c 2 mt ma mb mc = decide (0 ≤ Venn.firstSet ⟨l, c⟩ 2 ⟨th, a, b, d⟩ true) := by
    rw [someIsV, if_pos (by rw [Venn.someChk, if_pos hf, if_pos (by decide), HMC.out])]
    exact decide_eq_decide.2 (HSM.out ⟨l, c⟩ hf)
  have HF := Lib.hid hf
  clear hf HSM
  by_cases hz : ¬ 0 ≤ Venn.firstSet ⟨l, c⟩ 2 ⟨th, a, b, d⟩ true
  · rw [decide_eq_false hz] at hIW hIX
    have HIW := Lib.hid hIW
    have HIX := Lib.hid hIX
    have hT := Venn.firstSet_none HW.out hz
    have HH := Lib.hid (show Venn.formHoldsV ⟨l, c⟩ ⟨th, a, b, d⟩ = false by rw [Venn.formHoldsV, if_pos (by rw [Venn.formHoldsChk, if_pos HF.out]; exact HW.out), hT])
    have HHC := Lib.hid (show errV (Venn.formHoldsChk ⟨l, c⟩ ⟨th, a, b, d⟩) = .nilIface by rw [Venn.formHoldsChk, if_pos HF.out, HW.out]; rfl)
    clear hIW hIX hz hT
    go_wp2_with fail
    refine (some_Is _ _ l c _ _ _ _ _ _ (HA.out.keep (by (repeat' (first | (with_reducible exact Below.refl _ _) | (with_reducible assumption) | (with_reducible refine Below.next ?_ (by with_reducible assumption)) | (with_reducible refine Below.drew ?_) | (with_reducible refine Below.laid ?_ _) | (with_reducible refine Below.setCell ?_ ?_ _) | (with_reducible refine size_of ?_) | (with_reducible refine Nat.le_succ_of_le ?_) | go_size)))) (HC.out.keep (by (repeat' (first | (with_reducible exact Below.refl _ _) | (with_reducible assumption) | (with_reducible refine Below.next ?_ (by with_reducible assumption)) | (with_reducible refine Below.drew ?_) | (with_reducible refine Below.laid ?_ _) | (with_reducible refine Below.setCell ?_ ?_ _) | (with_reducible refine size_of ?_) | (with_reducible refine Nat.le_succ_of_le ?_) | go_size)))) (HK.out.keep (by (repeat' (first | (with_reducible exact Below.refl _ _) | (with_reducible assumption) | (with_reducible refine Below.next ?_ (by with_reducible assumption)) | (with_reducible refine Below.drew ?_) | (with_reducible refine Below.laid ?_ _) | (with_reducible refine Below.setCell ?_ ?_ _) | (with_reducible refine size_of ?_) | (with_reducible refine Nat.le_succ_of_le ?_) | go_size))))).mono ?_
    rintro e w4 ⟨rfl, hb4⟩
    rw [HSW.out, HIW.out]
    have hq4 : Below w3.heap.size w3 w4 := by (repeat' (first | (with_reducible exact Below.refl _ _) | (with_reducible assumption) | (with_reducible refine Below.next ?_ (by with_reducible assumption)) | (with_reducible refine Below.drew ?_) | (with_reducible refine Below.laid ?_ _) | (with_reducible refine Below.setCell ?_ ?_ _) | (with_reducible refine size_of ?_) | (with_reducible refine Nat.le_succ_of_le ?_) | go_size))
    have hw4 : Below w.heap.size w w4 := Below.next hw3 hq4
    replace BF := BF.keep hq4
    try clear BF0 BF1 BFl
    obtain ⟨⟨BF0, BF1⟩, _⟩ := BF.cells2
    have BFl := BF.lt
    replace BW := BW.keep hq4
    try clear BW0 BW1 BW2 BW3 BWl
    obtain ⟨BW0, BW1, BW2, BW3⟩ := BW.cells4
    have BWl := BW.lt
    replace BX := BX.keep hb4
    obtain ⟨BX0, BX1, BX2, BX3⟩ := BX.cells4
    have BXl := BX.lt
    go_wp2_with fail
    refine (some_Is _ _ l c _ _ _ _ _ _ (HA.out.keep (by (repeat' (first | (with_reducible exact Below.refl _ _) | (with_reducible assumption) | (with_reducible refine Below.next ?_ (by with_reducible assumption)) | (with_reducible refine Below.drew ?_) | (with_reducible refine Below.laid ?_ _) | (with_reducible refine Below.setCell ?_ ?_ _) | (with_reducible refine size_of ?_) | (with_reducible refine Nat.le_succ_of_le ?_) | go_size)))) (HC.out.keep (by (repeat' (first | (with_reducible exact Below.refl _ _) | (with_reducible assumption) | (with_reducible refine Below.next ?_ (by with_reducible assumption)) | (with_reducible refine Below.drew ?_) | (with_reducible refine Below.laid ?_ _) | (with_reducible refine Below.setCell ?_ ?_ _) | (with_reducible refine size_of ?_) | (with_reducible refine Nat.le_succ_of_le ?_) | go_size)))) (HK.out.keep (by (repeat' (first | (with_reducible exact Below.refl _ _) | (with_reducible assumption) | (with_reducible refine Below.next ?_ (by with_reducible assumption)) | (with_reducible refine Below.drew ?_) | (with_reducible refine Below.laid ?_ _) | (with_reducible refine Below.setCell ?_ ?_ _) | (with_reducible refine size_of ?_) | (with_reducible refine Nat.le_succ_of_le ?_) | go_size))))).mono ?_
    rintro e w5 ⟨rfl, hb5⟩
    rw [HSX.out, HIX.out]
    have hq5 : Below w4.heap.size w4 w5 := by (repeat' (first | (with_reducible exact Below.refl _ _) | (with_reducible assumption) | (with_reducible refine Below.next ?_ (by with_reducible assumption)) | (with_reducible refine Below.drew ?_) | (with_reducible refine Below.laid ?_ _) | (with_reducible refine Below.setCell ?_ ?_ _) | (with_reducible refine size_of ?_) | (with_reducible refine Nat.le_succ_of_le ?_) | go_size))
    have hw5 : Below w.heap.size w w5 := Below.next hw4 hq5
    replace BF := BF.keep hq5
    try clear BF0 BF1 BFl
    obtain ⟨⟨BF0, BF1⟩, _⟩ := BF.cells2
    have BFl := BF.lt
    replace BW := BW.keep hq5
    try clear BW0 BW1 BW2 BW3 BWl
    obtain ⟨BW0, BW1, BW2, BW3⟩ := BW.cells4
    have BWl := BW.lt
    go_wp2_with fail
    refine (form_Holds _ _ l c _ _ _ _ _ (HA.out.keep (by (repeat' (first | (with_reducible exact Below.refl _ _) | (with_reducible assumption) | (with_reducible refine Below.next ?_ (by with_reducible assumption)) | (with_reducible refine Below.drew ?_) | (with_reducible refine Below.laid ?_ _) | (with_reducible refine Below.setCell ?_ ?_ _) | (with_reducible refine size_of ?_) | (with_reducible refine Nat.le_succ_of_le ?_) | go_size)))) (HC.out.keep (by (repeat' (first | (with_reducible exact Below.refl _ _) | (with_reducible assumption) | (with_reducible refine Below.next ?_ (by with_reducible assumption)) | (with_reducible refine Below.drew ?_) | (with_reducible refine Below.laid ?_ _) | (with_reducible refine Below.setCell ?_ ?_ _) | (with_reducible refine size_of ?_) | (with_reducible refine Nat.le_succ_of_le ?_) | go_size)))) (HK.out.keep (by (repeat' (first | (with_reducible exact Below.refl _ _) | (with_reducible assumption) | (with_reducible refine Below.next ?_ (by with_reducible assumption)) | (with_reducible refine Below.drew ?_) | (with_reducible refine Below.laid ?_ _) | (with_reducible refine Below.setCell ?_ ?_ _) | (with_reducible refine size_of ?_) | (with_reducible refine Nat.le_succ_of_le ?_) | go_size))))).mono ?_
    rintro e w6 ⟨rfl, hb6⟩
    rw [HHC.out, HH.out]
    have hq6 : Below w5.heap.size w5 w6 := by (repeat' (first | (with_reducible exact Below.refl _ _) | (with_reducible assumption) | (with_reducible refine Below.next ?_ (by with_reducible assumption)) | (with_reducible refine Below.drew ?_) | (with_reducible refine Below.laid ?_ _) | (with_reducible refine Below.setCell ?_ ?_ _) | (with_reducible refine size_of ?_) | (with_reducible refine Nat.le_succ_of_le ?_) | go_size))
    have hw6 : Below w.heap.size w w6 := Below.next hw5 hq6
    go_wp2
    go_ret
    exact ⟨rfl, by (repeat' (first | (with_reducible exact Below.refl _ _) | (with_reducible assumption) | (with_reducible refine Below.next ?_ (by with_reducible assumption)) | (with_reducible refine Below.drew ?_) | (with_reducible refine Below.laid ?_ _) | (with_reducible refine Below.setCell ?_ ?_ _) | (with_reducible refine size_of ?_) | (with_reducible refine Nat.le_succ_of_le ?_) | go_size))⟩
  replace hz := Decidable.not_not.1 hz
  rw [decide_eq_true hz] at hIW hIX
  have HIW := Lib.hid hIW
  have HIX := Lib.hid hIX
  obtain ⟨hT, hS⟩ := Venn.firstSet_is hz
  have hthin := (Venn.worldChk_iff.1 HW.out).1
  obtain ⟨S, hSe⟩ : ∃ S, Venn.firstSet ⟨l, c⟩ 2 ⟨th, a, b, d⟩ true = S := ⟨_, rfl⟩
  rw [hSe] at hT hS hz
  have hset : Venn.setChk th S = 0 := by
    have := hthin
    simp only [Venn.things, Bool.and_eq_true, decide_eq_true_eq] at this
    exact Venn.setChk_iff.2 ⟨this, hz, hS⟩
  have hput : Venn.World.put ⟨th, a, b, d⟩ 2 S = ⟨th, a, b, S⟩ := rfl
  have hwx : Venn.worldChk ⟨th, a, b, S⟩ = 0 := by rw [← hput]; exact Venn.put2_chk HW.out hset
  rw [hput] at hT
  have HFS := Lib.hid (show firstVv l c 2 th a b d = .tuple #[.int .i64 S, .nilIface] by
    have h1 : Venn.someChk ⟨l, c⟩ 2 ⟨th, a, b, d⟩ = 0 := by rw [Venn.someChk, if_pos HF.out, if_pos (by decide), HW.out]
    have h2 : Venn.someFirstChk ⟨l, c⟩ 2 ⟨th, a, b, d⟩ = 0 := by rw [Venn.someFirstChk, if_pos h1, hSe, if_neg (by omega)]
    rw [firstVv, Venn.someFirstV, if_pos h2, h2, hSe]; rfl)
  have HH := Lib.hid (show Venn.formHoldsV ⟨l, c⟩ ⟨th, a, b, S⟩ = true by rw [Venn.formHoldsV, if_pos (by rw [Venn.formHoldsChk, if_pos HF.out]; exact hwx), hT])
  have HHC := Lib.hid (show errV (Venn.formHoldsChk ⟨l, c⟩ ⟨th, a, b, S⟩) = .nilIface by rw [Venn.formHoldsChk, if_pos HF.out, hwx]; rfl)
  have hpos : 0 < Venn.worldsGo ⟨l, c⟩ (Venn.allC th) := by
    have h := Venn.worlds_pos HF.out hwx hT
    exact h
  have hwc : Venn.worldsChk ⟨l, c⟩ th = 0 := by rw [Venn.worldsChk, if_pos HF.out, if_pos hthin]
  have HWO := Lib.hid (show worldsVv ⟨l, c⟩ th = .tuple #[.int .i64 (Venn.worldsGo ⟨l, c⟩ (Venn.allC th)), .nilIface] by rw [worldsVv, Venn.worldsV, if_pos hwc, hwc]; rfl)
  generalize Venn.worldsGo ⟨l, c⟩ (Venn.allC th) = G at hpos HWO
  clear hIW hIX hz hT hS hthin hSe hset hput hwx hwc
  go_wp2_with fail
  refine (some_Is _ _ l c _ _ _ _ _ _ (HA.out.keep (by (repeat' (first | (with_reducible exact Below.refl _ _) | (with_reducible assumption) | (with_reducible refine Below.next ?_ (by with_reducible assumption)) | (with_reducible refine Below.drew ?_) | (with_reducible refine Below.laid ?_ _) | (with_reducible refine Below.setCell ?_ ?_ _) | (with_reducible refine size_of ?_) | (with_reducible refine Nat.le_succ_of_le ?_) | go_size)))) (HC.out.keep (by (repeat' (first | (with_reducible exact Below.refl _ _) | (with_reducible assumption) | (with_reducible refine Below.next ?_ (by with_reducible assumption)) | (with_reducible refine Below.drew ?_) | (with_reducible refine Below.laid ?_ _) | (with_reducible refine Below.setCell ?_ ?_ _) | (with_reducible refine size_of ?_) | (with_reducible refine Nat.le_succ_of_le ?_) | go_size)))) (HK.out.keep (by (repeat' (first | (with_reducible exact Below.refl _ _) | (with_reducible assumption) | (with_reducible refine Below.next ?_ (by with_reducible assumption)) | (with_reducible refine Below.drew ?_) | (with_reducible refine Below.laid ?_ _) | (with_reducible refine Below.setCell ?_ ?_ _) | (with_reducible refine size_of ?_) | (with_reducible refine Nat.le_succ_of_le ?_) | go_size))))).mono ?_
  rintro e w4 ⟨rfl, hb4⟩
  rw [HSW.out, HIW.out]
  have hq4 : Below w3.heap.size w3 w4 := by (repeat' (first | (with_reducible exact Below.refl _ _) | (with_reducible assumption) | (with_reducible refine Below.next ?_ (by with_reducible assumption)) | (with_reducible refine Below.drew ?_) | (with_reducible refine Below.laid ?_ _) | (with_reducible refine Below.setCell ?_ ?_ _) | (with_reducible refine size_of ?_) | (with_reducible refine Nat.le_succ_of_le ?_) | go_size))
  have hw4 : Below w.heap.size w w4 := Below.next hw3 hq4
  replace BF := BF.keep hq4
  try clear BF0 BF1 BFl
  obtain ⟨⟨BF0, BF1⟩, _⟩ := BF.cells2
  have BFl := BF.lt
  replace BW := BW.keep hq4
  try clear BW0 BW1 BW2 BW3 BWl
  obtain ⟨BW0, BW1, BW2, BW3⟩ := BW.cells4
  have BWl := BW.lt
  replace BX := BX.keep hb4
  obtain ⟨BX0, BX1, BX2, BX3⟩ := BX.cells4
  have BXl := BX.lt
  go_wp2_with fail
  refine (some_Is _ _ l c _ _ _ _ _ _ (HA.out.keep (by (repeat' (first | (with_reducible exact Below.refl _ _) | (with_reducible assumption) | (with_reducible refine Below.next ?_ (by with_reducible assumption)) | (with_reducible refine Below.drew ?_) | (with_reducible refine Below.laid ?_ _) | (with_reducible refine Below.setCell ?_ ?_ _) | (with_reducible refine size_of ?_) | (with_reducible refine Nat.le_succ_of_le ?_) | go_size)))) (HC.out.keep (by (repeat' (first | (with_reducible exact Below.refl _ _) | (with_reducible assumption) | (with_reducible refine Below.next ?_ (by with_reducible assumption)) | (with_reducible refine Below.drew ?_) | (with_reducible refine Below.laid ?_ _) | (with_reducible refine Below.setCell ?_ ?_ _) | (with_reducible refine size_of ?_) | (with_reducible refine Nat.le_succ_of_le ?_) | go_size)))) (HK.out.keep (by (repeat' (first | (with_reducible exact Below.refl _ _) | (with_reducible assumption) | (with_reducible refine Below.next ?_ (by with_reducible assumption)) | (with_reducible refine Below.drew ?_) | (with_reducible refine Below.laid ?_ _) | (with_reducible refine Below.setCell ?_ ?_ _) | (with_reducible refine size_of ?_) | (with_reducible refine Nat.le_succ_of_le ?_) | go_size))))).mono ?_
  rintro e w5 ⟨rfl, hb5⟩
  rw [HSX.out, HIX.out]
  have hq5 : Below w4.heap.size w4 w5 := by (repeat' (first | (with_reducible exact Below.refl _ _) | (with_reducible assumption) | (with_reducible refine Below.next ?_ (by with_reducible assumption)) | (with_reducible refine Below.drew ?_) | (with_reducible refine Below.laid ?_ _) | (with_reducible refine Below.setCell ?_ ?_ _) | (with_reducible refine size_of ?_) | (with_reducible refine Nat.le_succ_of_le ?_) | go_size))
  have hw5 : Below w.heap.size w w5 := Below.next hw4 hq5
  replace BF := BF.keep hq5
  try clear BF0 BF1 BFl
  obtain ⟨⟨BF0, BF1⟩, _⟩ := BF.cells2
  have BFl := BF.lt
  replace BW := BW.keep hq5
  try clear BW0 BW1 BW2 BW3 BWl
  obtain ⟨BW0, BW1, BW2, BW3⟩ := BW.cells4
  have BWl := BW.lt
  go_wp2_with fail
  refine (some_First _ _ l c _ _ _ _ _ _ (HA.out.keep (by (repeat' (first | (with_reducible exact Below.refl _ _) | (with_reducible assumption) | (with_reducible refine Below.next ?_ (by with_reducible assumption)) | (with_reducible refine Below.drew ?_) | (with_reducible refine Below.laid ?_ _) | (with_reducible refine Below.setCell ?_ ?_ _) | (with_reducible refine size_of ?_) | (with_reducible refine Nat.le_succ_of_le ?_) | go_size)))) (HC.out.keep (by (repeat' (first | (with_reducible exact Below.refl _ _) | (with_reducible assumption) | (with_reducible refine Below.next ?_ (by with_reducible assumption)) | (with_reducible refine Below.drew ?_) | (with_reducible refine Below.laid ?_ _) | (with_reducible refine Below.setCell ?_ ?_ _) | (with_reducible refine size_of ?_) | (with_reducible refine Nat.le_succ_of_le ?_) | go_size)))) (HK.out.keep (by (repeat' (first | (with_reducible exact Below.refl _ _) | (with_reducible assumption) | (with_reducible refine Below.next ?_ (by with_reducible assumption)) | (with_reducible refine Below.drew ?_) | (with_reducible refine Below.laid ?_ _) | (with_reducible refine Below.setCell ?_ ?_ _) | (with_reducible refine size_of ?_) | (with_reducible refine Nat.le_succ_of_le ?_) | go_size))))).mono ?_
  rintro e w6 ⟨rfl, hb6⟩
  rw [HFS.out]
  have hq6 : Below w5.heap.size w5 w6 := by (repeat' (first | (with_reducible exact Below.refl _ _) | (with_reducible assumption) | (with_reducible refine Below.next ?_ (by with_reducible assumption)) | (with_reducible refine Below.drew ?_) | (with_reducible refine Below.laid ?_ _) | (with_reducible refine Below.setCell ?_ ?_ _) | (with_reducible refine size_of ?_) | (with_reducible refine Nat.le_succ_of_le ?_) | go_size))
  have hw6 : Below w.heap.size w w6 := Below.next hw5 hq6
  replace BF := BF.keep hq6
  try clear BF0 BF1 BFl
  obtain ⟨⟨BF0, BF1⟩, _⟩ := BF.cells2
  have BFl := BF.lt
  replace BW := BW.keep hq6
  try clear BW0 BW1 BW2 BW3 BWl
  obtain ⟨BW0, BW1, BW2, BW3⟩ := BW.cells4
  have BWl := BW.lt
  have z3 := BW.frozen 3
  go_upto_region 23 with (fail)
  have hwb : Below w.heap.size w (w6.setCell ⟨w.heap.size + 1, 3, none⟩ (.int .i64 S)) := by (repeat' (first | (with_reducible exact Below.refl _ _) | (with_reducible assumption) | (with_reducible refine Below.next ?_ (by with_reducible assumption)) | (with_reducible refine Below.drew ?_) | (with_reducible refine Below.laid ?_ _) | (with_reducible refine Below.setCell ?_ ?_ _) | (with_reducible refine size_of ?_) | (with_reducible refine Nat.le_succ_of_le ?_) | go_size))
  have BF6 := BF.far (p := ⟨w.heap.size + 1, 3, none⟩) (by simp) (.int .i64 S)
  have BW6 := BW.set_ 3 (.int .i64 S)
  clear BF0 BF1 BW0 BW1 BW2 BW3 BFl BWl BF BW z3 BX0 BX1 BX2 BX3 BXl
  revert hwb BF6 BW6
  generalize World.setCell _ _ _ = wx
  intro hwb BF BW
  simp at BW
  obtain ⟨⟨BF0, BF1⟩, _⟩ := BF.cells2
  have BFl := BF.lt
  obtain ⟨BW0, BW1, BW2, BW3⟩ := BW.cells4
  have BWl := BW.lt
  go_wp2_with fail
  refine (form_Holds _ _ l c _ _ _ _ _ (HA.out.keep (by (repeat' (first | (with_reducible exact Below.refl _ _) | (with_reducible assumption) | (with_reducible refine Below.next ?_ (by with_reducible assumption)) | (with_reducible refine Below.drew ?_) | (with_reducible refine Below.laid ?_ _) | (with_reducible refine Below.setCell ?_ ?_ _) | (with_reducible refine size_of ?_) | (with_reducible refine Nat.le_succ_of_le ?_) | go_size)))) (HC.out.keep (by (repeat' (first | (with_reducible exact Below.refl _ _) | (with_reducible assumption) | (with_reducible refine Below.next ?_ (by with_reducible assumption)) | (with_reducible refine Below.drew ?_) | (with_reducible refine Below.laid ?_ _) | (with_reducible refine Below.setCell ?_ ?_ _) | (with_reducible refine size_of ?_) | (with_reducible refine Nat.le_succ_of_le ?_) | go_size)))) (HK.out.keep (by (repeat' (first | (with_reducible exact Below.refl _ _) | (with_reducible assumption) | (with_reducible refine Below.next ?_ (by with_reducible assumption)) | (with_reducible refine Below.drew ?_) | (with_reducible refine Below.laid ?_ _) | (with_reducible refine Below.setCell ?_ ?_ _) | (with_reducible refine size_of ?_) | (with_reducible refine Nat.le_succ_of_le ?_) | go_size))))).mono ?_
  rintro e w7 ⟨rfl, hb7⟩
  rw [HHC.out, HH.out]
  clear BF0 BF1 BW0 BW1 BW2 BW3 BFl BWl
  replace BF := BF.keep hb7
  replace BW := BW.keep hb7
  obtain ⟨⟨BF0, BF1⟩, _⟩ := BF.cells2
  have BFl := BF.lt
  obtain ⟨BW0, BW1, BW2, BW3⟩ := BW.cells4
  have BWl := BW.lt
  go_wp2_with fail
  refine (worlds_Of _ _ l c _ _ (HA.out.keep (by (repeat' (first | (with_reducible exact Below.refl _ _) | (with_reducible assumption) | (with_reducible refine Below.next ?_ (by with_reducible assumption)) | (with_reducible refine Below.drew ?_) | (with_reducible refine Below.laid ?_ _) | (with_reducible refine Below.setCell ?_ ?_ _) | (with_reducible refine size_of ?_) | (with_reducible refine Nat.le_succ_of_le ?_) | go_size)))) (HC.out.keep (by (repeat' (first | (with_reducible exact Below.refl _ _) | (with_reducible assumption) | (with_reducible refine Below.next ?_ (by with_reducible assumption)) | (with_reducible refine Below.drew ?_) | (with_reducible refine Below.laid ?_ _) | (with_reducible refine Below.setCell ?_ ?_ _) | (with_reducible refine size_of ?_) | (with_reducible refine Nat.le_succ_of_le ?_) | go_size)))) (HK.out.keep (by (repeat' (first | (with_reducible exact Below.refl _ _) | (with_reducible assumption) | (with_reducible refine Below.next ?_ (by with_reducible assumption)) | (with_reducible refine Below.drew ?_) | (with_reducible refine Below.laid ?_ _) | (with_reducible refine Below.setCell ?_ ?_ _) | (with_reducible refine size_of ?_) | (with_reducible refine Nat.le_succ_of_le ?_) | go_size))))).mono ?_
  rintro e w8 ⟨rfl, hb8⟩
  rw [HWO.out]
  go_wp2
  go_ret
  exact ⟨rfl, by (repeat' (first | (with_reducible exact Below.refl _ _) | (with_reducible assumption) | (with_reducible refine Below.next ?_ (by with_reducible assumption)) | (with_reducible refine Below.drew ?_) | (with_reducible refine Below.laid ?_ _) | (with_reducible refine Below.setCell ?_ ?_ _) | (with_reducible refine size_of ?_) | (with_reducible refine Nat.le_succ_of_le ?_) | go_size))⟩
end Go.Proofs.YtnjamgmaclmlpaaDoor
