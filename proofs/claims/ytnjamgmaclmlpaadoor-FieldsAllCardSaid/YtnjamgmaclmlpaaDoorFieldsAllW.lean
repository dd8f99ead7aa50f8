/-
  THE WALK of vennlaw1.FieldsAll.
-/
import Derived.Test.YtnjamgmaclmlpaaDoorFormHolds
import Derived.Test.YtnjamgmaclmlpaaDoorRefFields
import Derived.Test.YtnjamgmaclmlpaaDoorCount
import Derived.Test.YtnjamgmaclmlpaaDoorSetsT
import Derived.Test.YtnjamgmaclmlpaaDoorVennP2
import Derived.Test.YtnjamgmaclmlpaaDoorEql
import Derived.Test.YtnjamgmaclmlpaaDoorSpan
import Derived.Test.YtnjamgmaclmlpaaDoorCore
import Derived.Test.YtnjamgmaclmlpaaDoorLawF
import Derived.BigQuiet
namespace Venn
theorem count_world {t : List Int} (ht : termChk t = 0) {w : World} (hw : worldChk w = 0) : countTo t (fieldsOf w) 8 = many (termSet t w) := by
  have h := dot_field (fun k => lies t k) w w.things.toNat
  rw [many_sumTo (termSet_right hw t)]
  have e : countTo t (fieldsOf w) 8 = sumTo w.things.toNat (fun i => lies t (fieldIn w i)) := by
    rw [← h]
    simp only [countTo, fieldsOf, List.getD]
    simp
  rw [e]
  exact sumTo_congr _ fun i hi => lies_field ht w hi
end Venn
namespace Go.Proofs.YtnjamgmaclmlpaaDoor
open Go.RowKit

theorem iface_nil (W : World) (u : TypeId) (v : Value) : (binOp .eql 29 (.iface u v) .nilIface).run Tryd.prog W = .ok (.bool false) W := by kernel_rfl
set_option maxHeartbeats 4000000 in
set_option maxRecDepth 100000 in
theorem fieldsAll_walk (sa sc tv : Value) (l : List Venn.Atom) (c t : List Int) (th a b d n0 n1 n2 n3 n4 n5 n6 n7 : Int) (w : World) (ht : IsInts w tv t) (ha : IsAtoms w sa l) (hc : IsInts w sc c) (hk : KindsOk w) :
    Calls Tryd.prog 7 #[.agg #[.int .i64 th, .int .i64 a, .int .i64 b, .int .i64 d], .agg #[.int .i64 n0, .int .i64 n1, .int .i64 n2, .int .i64 n3, .int .i64 n4, .int .i64 n5, .int .i64 n6, .int .i64 n7], tv, .agg #[sa, sc]] w (Keeps (.bool true) w) := by
  obtain ⟨A, cA, rfl⟩ := ha.slice
  obtain ⟨C, cC, rfl⟩ := hc.slice
  obtain ⟨T, cT, rfl⟩ := ht.slice
  have HA := Lib.hid ha
  have HC := Lib.hid hc
  have HT := Lib.hid ht
  have HK := Lib.hid hk
  clear ha hc ht hk
  have HL1 := Lib.hid (show fieldsV ⟨2, 1, 3, 0⟩ = [0, 0, 1, 1, 0, 0, 0, 0] by decide)
  have HL2 := Lib.hid (show errV (Venn.worldChk ⟨2, 1, 3, 0⟩) = .nilIface by rw [show Venn.worldChk ⟨2, 1, 3, 0⟩ = 0 by decide]; rfl)

  go_enter Tryd.func7, Tryd.ntmps7
  go_wp2_with fail
  refine (fields_Of _ _ _ _ _).mono ?_
  rintro e w1 ⟨rfl, hb1⟩
  rw [HL1.out, HL2.out]
  have hq1 : Below w.heap.size w w1 := by (repeat' (first | (with_reducible exact Below.refl _ _) | (with_reducible assumption) | (with_reducible refine Below.next ?_ (by with_reducible assumption)) | (with_reducible refine Below.drew ?_) | (with_reducible refine Below.laid ?_ _) | (with_reducible refine Below.setCell ?_ ?_ _) | (with_reducible refine size_of ?_) | (with_reducible refine Nat.le_succ_of_le ?_) | go_size))
  have hw1 : Below w.heap.size w w1 := hq1
  simp only [cells, List.map]
  have BW := (((Blk.new w 44 #[.int .i64 th, .int .i64 a, .int .i64 b, .int .i64 d]).alloc (.cells #[.int .i64 n0, .int .i64 n1, .int .i64 n2, .int .i64 n3, .int .i64 n4, .int .i64 n5, .int .i64 n6, .int .i64 n7] 23)).alloc (.cells #[.slice A l.length cA, .slice C c.length cC] 41)).keep hb1
  have BN := ((Blk.newAt (w := w.alloc (.cells #[.int .i64 th, .int .i64 a, .int .i64 b, .int .i64 d] 44)) (g := w.heap.size + 1) (by simp) 23 #[.int .i64 n0, .int .i64 n1, .int .i64 n2, .int .i64 n3, .int .i64 n4, .int .i64 n5, .int .i64 n6, .int .i64 n7]).alloc (.cells #[.slice A l.length cA, .slice C c.length cC] 41)).keep hb1
  have BF := (Blk.newAt (w := (w.alloc (.cells #[.int .i64 th, .int .i64 a, .int .i64 b, .int .i64 d] 44)).alloc (.cells #[.int .i64 n0, .int .i64 n1, .int .i64 n2, .int .i64 n3, .int .i64 n4, .int .i64 n5, .int .i64 n6, .int .i64 n7] 23)) (g := w.heap.size + 1 + 1) (by simp) 41 #[.slice A l.length cA, .slice C c.length cC]).keep hb1
  obtain ⟨BW0, BW1, BW2, BW3⟩ := BW.cells4
  have BWl := BW.lt
  obtain ⟨⟨BN0, BN1, BN2, BN3, BN4, BN5, BN6, BN7⟩, _⟩ := BN.cells8
  have BNl := BN.lt
  obtain ⟨⟨BF0, BF1⟩, _⟩ := BF.cells2
  have BFl := BF.lt
  have HWV := Lib.hid (fun W => fields_World n0 n1 n2 n3 n4 n5 n6 n7 W)
  have HXF := Lib.hid (fun (h : Venn.countsChk [n0, n1, n2, n3, n4, n5, n6, n7] = 0) => show Venn.fieldsOf (Venn.worldOfV [n0, n1, n2, n3, n4, n5, n6, n7]) = [n0, n1, n2, n3, n4, n5, n6, n7] ∧ Venn.worldChk (Venn.worldOfV [n0, n1, n2, n3, n4, n5, n6, n7]) = 0 by
    obtain ⟨hp, hs⟩ := counts_parts h
    rw [show Venn.worldOfV [n0, n1, n2, n3, n4, n5, n6, n7] = Venn.made [n0, n1, n2, n3, n4, n5, n6, n7] from if_pos h]
    exact ⟨Venn.fieldsOf_made rfl hp hs, (Venn.made_right (l := [n0, n1, n2, n3, n4, n5, n6, n7]) rfl hp hs).1⟩)
  generalize Venn.worldOfV [n0, n1, n2, n3, n4, n5, n6, n7] = X at HWV HXF
  obtain ⟨xt, xa, xb, xc⟩ := X
  simp only at HWV
  go_wp2_with fail
  refine (HWV.out _).mono ?_
  rintro e w2 ⟨rfl, hb2⟩
  have hq2 : Below w1.heap.size w1 w2 := by (repeat' (first | (with_reducible exact Below.refl _ _) | (with_reducible assumption) | (with_reducible refine Below.next ?_ (by with_reducible assumption)) | (with_reducible refine Below.drew ?_) | (with_reducible refine Below.laid ?_ _) | (with_reducible refine Below.setCell ?_ ?_ _) | (with_reducible refine size_of ?_) | (with_reducible refine Nat.le_succ_of_le ?_) | go_size))
  have hw2 : Below w.heap.size w w2 := Below.next hw1 hq2
  replace BW := BW.keep hq2
  try clear BW0 BW1 BW2 BW3 BWl
  obtain ⟨BW0, BW1, BW2, BW3⟩ := BW.cells4
  have BWl := BW.lt
  replace BN := BN.keep hq2
  try clear BN0 BN1 BN2 BN3 BN4 BN5 BN6 BN7 BNl
  obtain ⟨⟨BN0, BN1, BN2, BN3, BN4, BN5, BN6, BN7⟩, _⟩ := BN.cells8
  have BNl := BN.lt
  replace BF := BF.keep hq2
  try clear BF0 BF1 BFl
  obtain ⟨⟨BF0, BF1⟩, _⟩ := BF.cells2
  have BFl := BF.lt
  have BX := Blk.new w2 44 #[.int .i64 xt, .int .i64 xa, .int .i64 xb, .int .i64 xc]
  clear BW0 BW1 BW2 BW3 BF0 BF1
  by_cases hg : Venn.countsChk [n0, n1, n2, n3, n4, n5, n6, n7] = 0
  focus
    obtain ⟨hf, hwc⟩ := HXF.out hg
    have HF1 := Lib.hid (show fieldsV ⟨xt, xa, xb, xc⟩ = [n0, n1, n2, n3, n4, n5, n6, n7] by rw [fieldsV, if_pos hwc, hf])
    have HE1 := Lib.hid (errV_zero hwc)
    rw [errV_zero hg]
    clear hg hf hwc
    obtain ⟨x0, x1, x2, x3⟩ := BX.cells4
    go_wp2_with fail
    refine (fields_Of _ _ _ _ _).mono ?_
    rintro e w3 ⟨rfl, hb3⟩
    rw [HF1.out, HE1.out]
    simp only [cells, List.map]
    have GW := ((BW.alloc (.cells #[.int .i64 xt, .int .i64 xa, .int .i64 xb, .int .i64 xc] 44)).keep hb3).alloc (.cells #[.int .i64 n0, .int .i64 n1, .int .i64 n2, .int .i64 n3, .int .i64 n4, .int .i64 n5, .int .i64 n6, .int .i64 n7] 23)
    have GF := ((BF.alloc (.cells #[.int .i64 xt, .int .i64 xa, .int .i64 xb, .int .i64 xc] 44)).keep hb3).alloc (.cells #[.int .i64 n0, .int .i64 n1, .int .i64 n2, .int .i64 n3, .int .i64 n4, .int .i64 n5, .int .i64 n6, .int .i64 n7] 23)
    have BN3 := (BN.alloc (.cells #[.int .i64 xt, .int .i64 xa, .int .i64 xb, .int .i64 xc] 44)).keep hb3
    have GL : Below w.heap.size w (w3.alloc (.cells #[.int .i64 n0, .int .i64 n1, .int .i64 n2, .int .i64 n3, .int .i64 n4, .int .i64 n5, .int .i64 n6, .int .i64 n7] 23)) := by (repeat' (first | (with_reducible exact Below.refl _ _) | (with_reducible assumption) | (with_reducible refine Below.next ?_ (by with_reducible assumption)) | (with_reducible refine Below.drew ?_) | (with_reducible refine Below.laid ?_ _) | (with_reducible refine Below.setCell ?_ ?_ _) | (with_reducible refine size_of ?_) | (with_reducible refine Nat.le_succ_of_le ?_) | go_size))
    clear BN0 BN1 BN2 BN3 BN4 BN5 BN6 BN7 BNl x0 x1 x2 x3
    have BN3 := (BN.alloc (.cells #[.int .i64 xt, .int .i64 xa, .int .i64 xb, .int .i64 xc] 44)).keep hb3
    obtain ⟨⟨y0, y1, y2, y3, y4, y5, y6, y7⟩, _⟩ := BN3.cells8
    have hl3 := BN3.lt
    have hq := equal_counts n0 n1 n2 n3 n4 n5 n6 n7 (w3.alloc (.cells #[.int .i64 n0, .int .i64 n1, .int .i64 n2, .int .i64 n3, .int .i64 n4, .int .i64 n5, .int .i64 n6, .int .i64 n7] 23))
    go_upto_region 9 with (fail)
    clear hq y0 y1 y2 y3 y4 y5 y6 y7 hl3 BN3 BN BX BW BF hb3 HF1 HE1
    revert GW GF GL
    generalize World.alloc _ _ = w3
    intro BW BF hw3
  rotate_left
  focus
    rw [errV_ne hg]
    have GW := BW.alloc (.cells #[.int .i64 xt, .int .i64 xa, .int .i64 xb, .int .i64 xc] 44)
    have GF := BF.alloc (.cells #[.int .i64 xt, .int .i64 xa, .int .i64 xb, .int .i64 xc] 44)
    have GL : Below w.heap.size w (w2.alloc (.cells #[.int .i64 xt, .int .i64 xa, .int .i64 xb, .int .i64 xc] 44)) := by (repeat' (first | (with_reducible exact Below.refl _ _) | (with_reducible assumption) | (with_reducible refine Below.next ?_ (by with_reducible assumption)) | (with_reducible refine Below.drew ?_) | (with_reducible refine Below.laid ?_ _) | (with_reducible refine Below.setCell ?_ ?_ _) | (with_reducible refine size_of ?_) | (with_reducible refine Nat.le_succ_of_le ?_) | go_size))
    go_upto_region 9 with (fail)
    clear hg BN0 BN1 BN2 BN3 BN4 BN5 BN6 BN7 BNl BN BX BW BF
    revert GW GF GL
    generalize World.alloc _ _ = w3
    intro BW BF hw3
  all_goals
    clear HXF HWV hq1 hq2 hw1 hw2 hb1 hb2
    obtain ⟨BW0, BW1, BW2, BW3⟩ := BW.cells4
    have BWl := BW.lt
    obtain ⟨⟨BF0, BF1⟩, _⟩ := BF.cells2
    have BFl := BF.lt
    by_cases hw : ¬ Venn.worldChk ⟨th, a, b, d⟩ = 0
    · have HWX := Lib.hid (errV_ne hw)
      have HFV := Lib.hid (show fieldsV ⟨th, a, b, d⟩ = [0, 0, 0, 0, 0, 0, 0, 0] by rw [fieldsV, if_neg hw])
      clear hw
      go_wp2_with fail
      refine (fields_Of _ _ _ _ _).mono ?_
      rintro e w4 ⟨rfl, hb4⟩
      rw [HFV.out, HWX.out]
      have hq4 : Below w3.heap.size w3 w4 := by (repeat' (first | (with_reducible exact Below.refl _ _) | (with_reducible assumption) | (with_reducible refine Below.next ?_ (by with_reducible assumption)) | (with_reducible refine Below.drew ?_) | (with_reducible refine Below.laid ?_ _) | (with_reducible refine Below.setCell ?_ ?_ _) | (with_reducible refine size_of ?_) | (with_reducible refine Nat.le_succ_of_le ?_) | go_size))
      have hw4 : Below w.heap.size w w4 := Below.next hw3 hq4
      simp only [cells, List.map]
      go_wp2
      go_ret
      exact ⟨rfl, by (repeat' (first | (with_reducible exact Below.refl _ _) | (with_reducible assumption) | (with_reducible refine Below.next ?_ (by with_reducible assumption)) | (with_reducible refine Below.drew ?_) | (with_reducible refine Below.laid ?_ _) | (with_reducible refine Below.setCell ?_ ?_ _) | (with_reducible refine size_of ?_) | (with_reducible refine Nat.le_succ_of_le ?_) | go_size))⟩
    replace hw := Decidable.not_not.1 hw
    have HWX := Lib.hid (errV_zero hw)
    obtain ⟨m0, m1, m2, m3, m4, m5, m6, m7, hm⟩ : ∃ m0 m1 m2 m3 m4 m5 m6 m7 : Int, Venn.fieldsOf ⟨th, a, b, d⟩ = [m0, m1, m2, m3, m4, m5, m6, m7] := ⟨_, _, _, _, _, _, _, _, rfl⟩
    have HM := Lib.hid (show fieldsV ⟨th, a, b, d⟩ = [m0, m1, m2, m3, m4, m5, m6, m7] by rw [fieldsV, if_pos hw, hm])
    have hcc : Venn.countsChk [m0, m1, m2, m3, m4, m5, m6, m7] = 0 := by rw [← hm]; exact Venn.fieldsOf_chk hw
    have hmf := Venn.made_fields hw
    have HFT := Lib.hid (fun (hf : Venn.formChk ⟨l, c⟩ = 0) => Venn.formTrue_made hf hw)
    have HCW := Lib.hid (fun (h : Venn.termChk t = 0) => Venn.count_world h hw)
    rw [hm] at hmf HFT HCW
    have HWV := Lib.hid (fun W => fields_World m0 m1 m2 m3 m4 m5 m6 m7 W)
    rw [show Venn.worldOfV [m0, m1, m2, m3, m4, m5, m6, m7] = Venn.made [m0, m1, m2, m3, m4, m5, m6, m7] from if_pos hcc, errV_zero hcc] at HWV
    generalize Venn.made [m0, m1, m2, m3, m4, m5, m6, m7] = M at HWV hmf HFT
    obtain ⟨mt, ma, mb, mc⟩ := M
    simp only at HWV
    obtain ⟨hmc, hmt, _⟩ := hmf
    obtain rfl : th = mt := hmt.symm
    have HW := Lib.hid hw
    have HMC := Lib.hid hmc
    have HCC := Lib.hid hcc
    clear hw hm hcc hmc
    go_wp2_with fail
    refine (fields_Of _ _ _ _ _).mono ?_
    rintro e w4 ⟨rfl, hb4⟩
    rw [HM.out, HWX.out]
    have hq4 : Below w3.heap.size w3 w4 := by (repeat' (first | (with_reducible exact Below.refl _ _) | (with_reducible assumption) | (with_reducible refine Below.next ?_ (by with_reducible assumption)) | (with_reducible refine Below.drew ?_) | (with_reducible refine Below.laid ?_ _) | (with_reducible refine Below.setCell ?_ ?_ _) | (with_reducible refine size_of ?_) | (with_reducible refine Nat.le_succ_of_le ?_) | go_size))
    have hw4 : Below w.heap.size w w4 := Below.next hw3 hq4
    replace BW := BW.keep hq4
    try clear BW0 BW1 BW2 BW3 BWl
    obtain ⟨BW0, BW1, BW2, BW3⟩ := BW.cells4
    have BWl := BW.lt
    replace BF := BF.keep hq4
    try clear BF0 BF1 BFl
    obtain ⟨⟨BF0, BF1⟩, _⟩ := BF.cells2
    have BFl := BF.lt
    simp only [cells, List.map]
    have BM := Blk.new w4 23 #[.int .i64 m0, .int .i64 m1, .int .i64 m2, .int .i64 m3, .int .i64 m4, .int .i64 m5, .int .i64 m6, .int .i64 m7]
    go_wp2_with fail
    refine (HWV.out _).mono ?_
    rintro e w5 ⟨rfl, hb5⟩
    have hq5 : Below w4.heap.size w4 w5 := by (repeat' (first | (with_reducible exact Below.refl _ _) | (with_reducible assumption) | (with_reducible refine Below.next ?_ (by with_reducible assumption)) | (with_reducible refine Below.drew ?_) | (with_reducible refine Below.laid ?_ _) | (with_reducible refine Below.setCell ?_ ?_ _) | (with_reducible refine size_of ?_) | (with_reducible refine Nat.le_succ_of_le ?_) | go_size))
    have hw5 : Below w.heap.size w w5 := Below.next hw4 hq5
    replace BW := BW.keep hq5
    try clear BW0 BW1 BW2 BW3 BWl
    obtain ⟨BW0, BW1, BW2, BW3⟩ := BW.cells4
    have BWl := BW.lt
    replace BF := BF.keep hq5
    try clear BF0 BF1 BFl
    obtain ⟨⟨BF0, BF1⟩, _⟩ := BF.cells2
    have BFl := BF.lt
    replace BM := BM.keep hb5
    have BY := Blk.new w5 44 #[.int .i64 th, .int .i64 ma, .int .i64 mb, .int .i64 mc]
    have HVC := Lib.hid (show Venn.valueChk t ⟨th, a, b, d⟩ = Venn.termChk t by
      rw [Venn.valueChk]
      split
      · rename_i h; rw [HW.out, h]
      · rfl)
    go_wp2_with fail
    refine (term_Value _ t _ _ _ _ _ (HT.out.keep (by (repeat' (first | (with_reducible exact Below.refl _ _) | (with_reducible assumption) | (with_reducible refine Below.next ?_ (by with_reducible assumption)) | (with_reducible refine Below.drew ?_) | (with_reducible refine Below.laid ?_ _) | (with_reducible refine Below.setCell ?_ ?_ _) | (with_reducible refine size_of ?_) | (with_reducible refine Nat.le_succ_of_le ?_) | go_size))))).mono ?_
    rintro e w6 ⟨rfl, hb6⟩
    rw [HVC.out]
    have hq6 : Below w5.heap.size w5 w6 := by (repeat' (first | (with_reducible exact Below.refl _ _) | (with_reducible assumption) | (with_reducible refine Below.next ?_ (by with_reducible assumption)) | (with_reducible refine Below.drew ?_) | (with_reducible refine Below.laid ?_ _) | (with_reducible refine Below.setCell ?_ ?_ _) | (with_reducible refine size_of ?_) | (with_reducible refine Nat.le_succ_of_le ?_) | go_size))
    have hw6 : Below w.heap.size w w6 := Below.next hw5 hq6
    replace BW := BW.keep hq6
    try clear BW0 BW1 BW2 BW3 BWl
    obtain ⟨BW0, BW1, BW2, BW3⟩ := BW.cells4
    have BWl := BW.lt
    replace BF := BF.keep hq6
    try clear BF0 BF1 BFl
    obtain ⟨⟨BF0, BF1⟩, _⟩ := BF.cells2
    have BFl := BF.lt
    replace BM := BM.keep hq6
    replace BY := BY.keep hb6
    clear BF0 BF1 BFl
    by_cases ht : Venn.termChk t = 0
    focus
      have HVV := Lib.hid (show Venn.valueV t ⟨th, a, b, d⟩ = Venn.termSet t ⟨th, a, b, d⟩ by rw [Venn.valueV, if_pos (by rw [HVC.out, ht])])
      have HSR := Lib.hid (Venn.termSet_right HW.out t)
      have hcz : Venn.countChk t [m0, m1, m2, m3, m4, m5, m6, m7] = 0 := by rw [Venn.countChk, if_pos ht, HCC.out]
      have HCV := Lib.hid (show Venn.countV t [m0, m1, m2, m3, m4, m5, m6, m7] = Venn.many (Venn.termSet t ⟨th, a, b, d⟩) by rw [Venn.countV, if_pos hcz, HCW.out ht])
      have HCE := Lib.hid (errV_zero hcz)
      rw [errV_zero ht, HVV.out]
      clear HVV ht hcz HCW
      generalize Venn.termSet t ⟨th, a, b, d⟩ = S at HSR HCV ⊢
      generalize hMS : Venn.many S = MS at HCV
      have HMS := Lib.hid hMS
      clear hMS
      obtain ⟨⟨mm0, mm1, mm2, mm3, mm4, mm5, mm6, mm7⟩, _⟩ := BM.cells8
      have hml := BM.lt
      go_wp2_with (go_at_call 36; refine (sets_Size_ok _ _ _ HSR.out).mono ?_; rintro e w' ⟨rfl, rfl⟩; rw [HMS.out])
      refine (fields_Count _ t _ _ _ _ _ _ _ _ _ (HT.out.keep (by (repeat' (first | (with_reducible exact Below.refl _ _) | (with_reducible assumption) | (with_reducible refine Below.next ?_ (by with_reducible assumption)) | (with_reducible refine Below.drew ?_) | (with_reducible refine Below.laid ?_ _) | (with_reducible refine Below.setCell ?_ ?_ _) | (with_reducible refine size_of ?_) | (with_reducible refine Nat.le_succ_of_le ?_) | go_size))))).mono ?_
      rintro e w7 ⟨rfl, hb7⟩
      rw [HCV.out, HCE.out]
      clear mm0 mm1 mm2 mm3 mm4 mm5 mm6 mm7 hml BW0 BW1 BW2 BW3 BWl BM
      replace BW := BW.keep hb7
      replace BF := BF.keep hb7
      replace BY := BY.keep hb7
      have hw7 := Below.next hw6 hb7
      go_upto_region 21 with (fail)
      clear hb7 HSR HCV HMS HCE
    rotate_left
    focus
      rw [errV_ne ht]
      go_upto_region 21 with (fail)
      clear ht BM BW0 BW1 BW2 BW3 BWl HCW
      have hw7 := hw6
      obtain ⟨w7, hw7e⟩ : ∃ w7 : World, w6 = w7 := ⟨_, rfl⟩
      rw [hw7e] at BW BF BY hw7 ⊢
      clear hw7e
    all_goals
      obtain ⟨BW0, BW1, BW2, BW3⟩ := BW.cells4
      have BWl := BW.lt
      obtain ⟨⟨BF0, BF1⟩, _⟩ := BF.cells2
      have BFl := BF.lt
      obtain ⟨BY0, BY1, BY2, BY3⟩ := BY.cells4
      have BYl := BY.lt
      by_cases hf : ¬ Venn.formChk ⟨l, c⟩ = 0
      · have HH1 := Lib.hid (show Venn.formHoldsV ⟨l, c⟩ ⟨th, a, b, d⟩ = false by rw [Venn.formHoldsV, if_neg (by rw [Venn.formHoldsChk, if_neg hf]; exact hf)])
        have HH2 := Lib.hid (show Venn.formHoldsV ⟨l, c⟩ ⟨th, ma, mb, mc⟩ = false by rw [Venn.formHoldsV, if_neg (by rw [Venn.formHoldsChk, if_neg hf]; exact hf)])
        have HE1 := Lib.hid (show errV (Venn.formHoldsChk ⟨l, c⟩ ⟨th, a, b, d⟩) = .iface 101 (.int .i64 (Venn.formChk ⟨l, c⟩)) by rw [Venn.formHoldsChk, if_neg hf, errV_ne hf])
        have HE2 := Lib.hid (show errV (Venn.formHoldsChk ⟨l, c⟩ ⟨th, ma, mb, mc⟩) = .iface 101 (.int .i64 (Venn.formChk ⟨l, c⟩)) by rw [Venn.formHoldsChk, if_neg hf, errV_ne hf])
        clear hf
        go_wp2_with fail
        refine (form_Holds _ _ l c _ _ _ _ _ (HA.out.keep (by (repeat' (first | (with_reducible exact Below.refl _ _) | (with_reducible assumption) | (with_reducible refine Below.next ?_ (by with_reducible assumption)) | (with_reducible refine Below.drew ?_) | (with_reducible refine Below.laid ?_ _) | (with_reducible refine Below.setCell ?_ ?_ _) | (with_reducible refine size_of ?_) | (with_reducible refine Nat.le_succ_of_le ?_) | go_size)))) (HC.out.keep (by (repeat' (first | (with_reducible exact Below.refl _ _) | (with_reducible assumption) | (with_reducible refine Below.next ?_ (by with_reducible assumption)) | (with_reducible refine Below.drew ?_) | (with_reducible refine Below.laid ?_ _) | (with_reducible refine Below.setCell ?_ ?_ _) | (with_reducible refine size_of ?_) | (with_reducible refine Nat.le_succ_of_le ?_) | go_size)))) (HK.out.keep (by (repeat' (first | (with_reducible exact Below.refl _ _) | (with_reducible assumption) | (with_reducible refine Below.next ?_ (by with_reducible assumption)) | (with_reducible refine Below.drew ?_) | (with_reducible refine Below.laid ?_ _) | (with_reducible refine Below.setCell ?_ ?_ _) | (with_reducible refine size_of ?_) | (with_reducible refine Nat.le_succ_of_le ?_) | go_size))))).mono ?_
        rintro e w8 ⟨rfl, hb8⟩
        rw [HE1.out, HH1.out]
        have hq8 : Below w7.heap.size w7 w8 := by (repeat' (first | (with_reducible exact Below.refl _ _) | (with_reducible assumption) | (with_reducible refine Below.next ?_ (by with_reducible assumption)) | (with_reducible refine Below.drew ?_) | (with_reducible refine Below.laid ?_ _) | (with_reducible refine Below.setCell ?_ ?_ _) | (with_reducible refine size_of ?_) | (with_reducible refine Nat.le_succ_of_le ?_) | go_size))
        have hw8 : Below w.heap.size w w8 := Below.next hw7 hq8
        replace BW := BW.keep hq8
        try clear BW0 BW1 BW2 BW3 BWl
        obtain ⟨BW0, BW1, BW2, BW3⟩ := BW.cells4
        have BWl := BW.lt
        replace BF := BF.keep hq8
        try clear BF0 BF1 BFl
        obtain ⟨⟨BF0, BF1⟩, _⟩ := BF.cells2
        have BFl := BF.lt
        replace BY := BY.keep hq8
        try clear BY0 BY1 BY2 BY3 BYl
        obtain ⟨BY0, BY1, BY2, BY3⟩ := BY.cells4
        have BYl := BY.lt
        go_wp2_with fail
        refine (form_Holds _ _ l c _ _ _ _ _ (HA.out.keep (by (repeat' (first | (with_reducible exact Below.refl _ _) | (with_reducible assumption) | (with_reducible refine Below.next ?_ (by with_reducible assumption)) | (with_reducible refine Below.drew ?_) | (with_reducible refine Below.laid ?_ _) | (with_reducible refine Below.setCell ?_ ?_ _) | (with_reducible refine size_of ?_) | (with_reducible refine Nat.le_succ_of_le ?_) | go_size)))) (HC.out.keep (by (repeat' (first | (with_reducible exact Below.refl _ _) | (with_reducible assumption) | (with_reducible refine Below.next ?_ (by with_reducible assumption)) | (with_reducible refine Below.drew ?_) | (with_reducible refine Below.laid ?_ _) | (with_reducible refine Below.setCell ?_ ?_ _) | (with_reducible refine size_of ?_) | (with_reducible refine Nat.le_succ_of_le ?_) | go_size)))) (HK.out.keep (by (repeat' (first | (with_reducible exact Below.refl _ _) | (with_reducible assumption) | (with_reducible refine Below.next ?_ (by with_reducible assumption)) | (with_reducible refine Below.drew ?_) | (with_reducible refine Below.laid ?_ _) | (with_reducible refine Below.setCell ?_ ?_ _) | (with_reducible refine size_of ?_) | (with_reducible refine Nat.le_succ_of_le ?_) | go_size))))).mono ?_
        rintro e w9 ⟨rfl, hb9⟩
        rw [HE2.out, HH2.out]
        have hq9 : Below w8.heap.size w8 w9 := by (repeat' (first | (with_reducible exact Below.refl _ _) | (with_reducible assumption) | (with_reducible refine Below.next ?_ (by with_reducible assumption)) | (with_reducible refine Below.drew ?_) | (with_reducible refine Below.laid ?_ _) | (with_reducible refine Below.setCell ?_ ?_ _) | (with_reducible refine size_of ?_) | (with_reducible refine Nat.le_succ_of_le ?_) | go_size))
        have hw9 : Below w.heap.size w w9 := Below.next hw8 hq9
        go_wp2_with fail
        go_quiet (fail)
        go_wp2
        go_ret
        exact ⟨by simp, below_drewN (by (repeat' (first | (with_reducible exact Below.refl _ _) | (with_reducible assumption) | (with_reducible refine Below.next ?_ (by with_reducible assumption)) | (with_reducible refine Below.drew ?_) | (with_reducible refine Below.laid ?_ _) | (with_reducible refine Below.setCell ?_ ?_ _) | (with_reducible refine size_of ?_) | (with_reducible refine Nat.le_succ_of_le ?_) | go_size))) _⟩
      replace hf := Decidable.not_not.1 hf
      obtain ⟨v, hv⟩ : ∃ v, Venn.formTrue ⟨l, c⟩ ⟨th, a, b, d⟩ = v := ⟨_, rfl⟩
      have hv2 := HFT.out hf
      rw [hv] at hv2
      have hk1 : Venn.formHoldsChk ⟨l, c⟩ ⟨th, a, b, d⟩ = 0 := by rw [Venn.formHoldsChk, if_pos hf]; exact HW.out
      have hk2 : Venn.formHoldsChk ⟨l, c⟩ ⟨th, ma, mb, mc⟩ = 0 := by rw [Venn.formHoldsChk, if_pos hf]; exact HMC.out
      have HH1 := Lib.hid (show Venn.formHoldsV ⟨l, c⟩ ⟨th, a, b, d⟩ = v by rw [Venn.formHoldsV, if_pos hk1, hv])
      have HH2 := Lib.hid (show Venn.formHoldsV ⟨l, c⟩ ⟨th, ma, mb, mc⟩ = v by rw [Venn.formHoldsV, if_pos hk2, hv2])
      have HE1 := Lib.hid (errV_zero hk1)
      have HE2 := Lib.hid (errV_zero hk2)
      clear hf hv hv2 hk1 hk2 HFT
      go_wp2_with fail
      refine (form_Holds _ _ l c _ _ _ _ _ (HA.out.keep (by (repeat' (first | (with_reducible exact Below.refl _ _) | (with_reducible assumption) | (with_reducible refine Below.next ?_ (by with_reducible assumption)) | (with_reducible refine Below.drew ?_) | (with_reducible refine Below.laid ?_ _) | (with_reducible refine Below.setCell ?_ ?_ _) | (with_reducible refine size_of ?_) | (with_reducible refine Nat.le_succ_of_le ?_) | go_size)))) (HC.out.keep (by (repeat' (first | (with_reducible exact Below.refl _ _) | (with_reducible assumption) | (with_reducible refine Below.next ?_ (by with_reducible assumption)) | (with_reducible refine Below.drew ?_) | (with_reducible refine Below.laid ?_ _) | (with_reducible refine Below.setCell ?_ ?_ _) | (with_reducible refine size_of ?_) | (with_reducible refine Nat.le_succ_of_le ?_) | go_size)))) (HK.out.keep (by (repeat' (first | (with_reducible exact Below.refl _ _) | (with_reducible assumption) | (with_reducible refine Below.next ?_ (by with_reducible assumption)) | (with_reducible refine Below.drew ?_) | (with_reducible refine Below.laid ?_ _) | (with_reducible refine Below.setCell ?_ ?_ _) | (with_reducible refine size_of ?_) | (with_reducible refine Nat.le_succ_of_le ?_) | go_size))))).mono ?_
      rintro e w8 ⟨rfl, hb8⟩
      rw [HE1.out, HH1.out]
      have hq8 : Below w7.heap.size w7 w8 := by (repeat' (first | (with_reducible exact Below.refl _ _) | (with_reducible assumption) | (with_reducible refine Below.next ?_ (by with_reducible assumption)) | (with_reducible refine Below.drew ?_) | (with_reducible refine Below.laid ?_ _) | (with_reducible refine Below.setCell ?_ ?_ _) | (with_reducible refine size_of ?_) | (with_reducible refine Nat.le_succ_of_le ?_) | go_size))
      have hw8 : Below w.heap.size w w8 := Below.next hw7 hq8
      replace BW := BW.keep hq8
      try clear BW0 BW1 BW2 BW3 BWl
      obtain ⟨BW0, BW1, BW2, BW3⟩ := BW.cells4
      have BWl := BW.lt
      replace BF := BF.keep hq8
      try clear BF0 BF1 BFl
      obtain ⟨⟨BF0, BF1⟩, _⟩ := BF.cells2
      have BFl := BF.lt
      replace BY := BY.keep hq8
      try clear BY0 BY1 BY2 BY3 BYl
      obtain ⟨BY0, BY1, BY2, BY3⟩ := BY.cells4
      have BYl := BY.lt
      go_wp2_with fail
      refine (form_Holds _ _ l c _ _ _ _ _ (HA.out.keep (by (repeat' (first | (with_reducible exact Below.refl _ _) | (with_reducible assumption) | (with_reducible refine Below.next ?_ (by with_reducible assumption)) | (with_reducible refine Below.drew ?_) | (with_reducible refine Below.laid ?_ _) | (with_reducible refine Below.setCell ?_ ?_ _) | (with_reducible refine size_of ?_) | (with_reducible refine Nat.le_succ_of_le ?_) | go_size)))) (HC.out.keep (by (repeat' (first | (with_reducible exact Below.refl _ _) | (with_reducible assumption) | (with_reducible refine Below.next ?_ (by with_reducible assumption)) | (with_reducible refine Below.drew ?_) | (with_reducible refine Below.laid ?_ _) | (with_reducible refine Below.setCell ?_ ?_ _) | (with_reducible refine size_of ?_) | (with_reducible refine Nat.le_succ_of_le ?_) | go_size)))) (HK.out.keep (by (repeat' (first | (with_reducible exact Below.refl _ _) | (with_reducible assumption) | (with_reducible refine Below.next ?_ (by with_reducible assumption)) | (with_reducible refine Below.drew ?_) | (with_reducible refine Below.laid ?_ _) | (with_reducible refine Below.setCell ?_ ?_ _) | (with_reducible refine size_of ?_) | (with_reducible refine Nat.le_succ_of_le ?_) | go_size))))).mono ?_
      rintro e w9 ⟨rfl, hb9⟩
      rw [HE2.out, HH2.out]
      have hq9 : Below w8.heap.size w8 w9 := by (repeat' (first | (with_reducible exact Below.refl _ _) | (with_reducible assumption) | (with_reducible refine Below.next ?_ (by with_reducible assumption)) | (with_reducible refine Below.drew ?_) | (with_reducible refine Below.laid ?_ _) | (with_reducible refine Below.setCell ?_ ?_ _) | (with_reducible refine size_of ?_) | (with_reducible refine Nat.le_succ_of_le ?_) | go_size))
      have hw9 : Below w.heap.size w w9 := Below.next hw8 hq9
      cases v
      all_goals
        go_wp2_with fail
        go_quiet (fail)
        go_wp2
        go_ret
        exact ⟨by simp, below_drewN (by (repeat' (first | (with_reducible exact Below.refl _ _) | (with_reducible assumption) | (with_reducible refine Below.next ?_ (by with_reducible assumption)) | (with_reducible refine Below.drew ?_) | (with_reducible refine Below.laid ?_ _) | (with_reducible refine Below.setCell ?_ ?_ _) | (with_reducible refine size_of ?_) | (with_reducible refine Nat.le_succ_of_le ?_) | go_size))) _⟩
end Go.Proofs.YtnjamgmaclmlpaaDoor
