/-
  THE WALK of vennlaw2.SomeTells.
-/
import Derived.Test.YtcecbpbpknphjaaDoorRefForm
import Derived.Test.YtcecbpbpknphjaaDoorRefTrue
import Derived.Test.YtcecbpbpknphjaaDoorSomeFirst
import Derived.Test.YtcecbpbpknphjaaDoorLawF
import Derived.Test.YtcecbpbpknphjaaDoorVennTells
import Derived.BigQuiet
namespace Go.Proofs.YtcecbpbpknphjaaDoor
open Go.RowKit

set_option maxHeartbeats 8000000 in
set_option maxRecDepth 100000 in
theorem someTells_bad (sa sc : Value) (l : List Venn.Atom) (c : List Int) (name th a b d : Int) (w : World) (ha : IsAtoms w sa l) (hc : IsInts w sc c) (hk : KindsOk w) (het : EtOk w) (hz : ¬ Venn.someChk ⟨l, c⟩ name ⟨th, a, b, d⟩ = 0) :
    Calls Tryd.prog 4 #[.agg #[sa, sc], .int .i64 name, .agg #[.int .i64 th, .int .i64 a, .int .i64 b, .int .i64 d]] w (Keeps (.bool true) w) := by
  obtain ⟨A, cA, rfl⟩ := ha.slice
  obtain ⟨C, cC, rfl⟩ := hc.slice
  have HA := Lib.hid ha
  have HC := Lib.hid hc
  have HK := Lib.hid hk
  have HET := Lib.hid het
  clear ha hc hk het
  obtain ⟨E, hE⟩ : ∃ E, E = Venn.someChk ⟨l, c⟩ name ⟨th, a, b, d⟩ := ⟨_, rfl⟩
  have HIS := Lib.hid (show Value.tuple #[.bool (someIsV l c name th a b d), errV (Venn.someChk ⟨l, c⟩ name ⟨th, a, b, d⟩)] = .tuple #[.bool false, errV E] by rw [someIsV, if_neg hz, hE])
  have HEA := Lib.hid (show Value.tuple #[.bool (someEachV l c name th a b d), errV (Venn.someChk ⟨l, c⟩ name ⟨th, a, b, d⟩)] = .tuple #[.bool false, errV E] by rw [someEachV, if_neg hz, hE])
  have HF1 := Lib.hid (show firstVv l c name th a b d = .tuple #[.int .i64 0, errV E] by
    have h2 : Venn.someFirstChk ⟨l, c⟩ name ⟨th, a, b, d⟩ = E := by rw [Venn.someFirstChk, if_neg hz, hE]
    rw [firstVv, Venn.someFirstV, h2, if_neg (by rw [hE]; exact hz)])
  have q : (E == 0) = false := by rw [hE]; simpa using hz
  by_cases h1 : ¬ Venn.formChk ⟨l, c⟩ = 0
  · have HX := Lib.hid (show Venn.formChk ⟨l, c⟩ = E by rw [hE, Venn.someChk, if_neg h1])
    clear h1 hE hz
    go_enter Tryd.func4, Tryd.ntmps4
    go_wp2_with fail
    refine (ref_Form _ _ l c _ (HA.out.keep (by (repeat' (first | (with_reducible exact Below.refl _ _) | (with_reducible assumption) | (with_reducible refine Below.next ?_ (by with_reducible assumption)) | (with_reducible refine Below.drew ?_) | (with_reducible refine Below.laid ?_ _) | (with_reducible refine Below.setCell ?_ ?_ _) | (with_reducible refine size_of ?_) | (with_reducible refine Nat.le_succ_of_le ?_) | go_size)))) (HC.out.keep (by (repeat' (first | (with_reducible exact Below.refl _ _) | (with_reducible assumption) | (with_reducible refine Below.next ?_ (by with_reducible assumption)) | (with_reducible refine Below.drew ?_) | (with_reducible refine Below.laid ?_ _) | (with_reducible refine Below.setCell ?_ ?_ _) | (with_reducible refine size_of ?_) | (with_reducible refine Nat.le_succ_of_le ?_) | go_size))))).mono ?_
    rintro e w1 ⟨rfl, hb1⟩
    rw [HX.out]
    have hq1 : Below w.heap.size w w1 := by (repeat' (first | (with_reducible exact Below.refl _ _) | (with_reducible assumption) | (with_reducible refine Below.next ?_ (by with_reducible assumption)) | (with_reducible refine Below.drew ?_) | (with_reducible refine Below.laid ?_ _) | (with_reducible refine Below.setCell ?_ ?_ _) | (with_reducible refine size_of ?_) | (with_reducible refine Nat.le_succ_of_le ?_) | go_size))
    have hw1 : Below w.heap.size w w1 := hq1
    have BF : Blk w1 w.heap.size 25 #[.slice A l.length cA, .slice C c.length cC] := (boxes24 hb1).1
    have BW : Blk w1 (w.heap.size + 1) 28 #[.int .i64 th, .int .i64 a, .int .i64 b, .int .i64 d] := (boxes24 hb1).2
    obtain ⟨⟨BF0, BF1⟩, _⟩ := BF.cells2
    have BFl := BF.lt
    obtain ⟨BW0, BW1, BW2, BW3⟩ := BW.cells4
    have BWl := BW.lt
    go_wp2_with fail
    refine (some_Is _ _ l c _ _ _ _ _ _ (HA.out.keep (by (repeat' (first | (with_reducible exact Below.refl _ _) | (with_reducible assumption) | (with_reducible refine Below.next ?_ (by with_reducible assumption)) | (with_reducible refine Below.drew ?_) | (with_reducible refine Below.laid ?_ _) | (with_reducible refine Below.setCell ?_ ?_ _) | (with_reducible refine size_of ?_) | (with_reducible refine Nat.le_succ_of_le ?_) | go_size)))) (HC.out.keep (by (repeat' (first | (with_reducible exact Below.refl _ _) | (with_reducible assumption) | (with_reducible refine Below.next ?_ (by with_reducible assumption)) | (with_reducible refine Below.drew ?_) | (with_reducible refine Below.laid ?_ _) | (with_reducible refine Below.setCell ?_ ?_ _) | (with_reducible refine size_of ?_) | (with_reducible refine Nat.le_succ_of_le ?_) | go_size)))) (HK.out.keep (by (repeat' (first | (with_reducible exact Below.refl _ _) | (with_reducible assumption) | (with_reducible refine Below.next ?_ (by with_reducible assumption)) | (with_reducible refine Below.drew ?_) | (with_reducible refine Below.laid ?_ _) | (with_reducible refine Below.setCell ?_ ?_ _) | (with_reducible refine size_of ?_) | (with_reducible refine Nat.le_succ_of_le ?_) | go_size))))).mono ?_
    rintro e w2 ⟨rfl, hb2⟩
    rw [HIS.out]
    have hq2 : Below w1.heap.size w1 w2 := by (repeat' (first | (with_reducible exact Below.refl _ _) | (with_reducible assumption) | (with_reducible refine Below.next ?_ (by with_reducible assumption)) | (with_reducible refine Below.drew ?_) | (with_reducible refine Below.laid ?_ _) | (with_reducible refine Below.setCell ?_ ?_ _) | (with_reducible refine size_of ?_) | (with_reducible refine Nat.le_succ_of_le ?_) | go_size))
    have hw2 : Below w.heap.size w w2 := Below.next hw1 hq2
    replace BF := BF.keep hq2
    try clear BF0 BF1 BFl
    obtain ⟨⟨BF0, BF1⟩, _⟩ := BF.cells2
    have BFl := BF.lt
    replace BW := BW.keep hq2
    try clear BW0 BW1 BW2 BW3 BWl
    obtain ⟨BW0, BW1, BW2, BW3⟩ := BW.cells4
    have BWl := BW.lt
    go_wp2_with fail
    refine (vennsame_Error _ _ _ (HET.out.keep (by (repeat' (first | (with_reducible exact Below.refl _ _) | (with_reducible assumption) | (with_reducible refine Below.next ?_ (by with_reducible assumption)) | (with_reducible refine Below.drew ?_) | (with_reducible refine Below.laid ?_ _) | (with_reducible refine Below.setCell ?_ ?_ _) | (with_reducible refine size_of ?_) | (with_reducible refine Nat.le_succ_of_le ?_) | go_size))))).mono ?_
    rintro e w3 ⟨rfl, hb3⟩
    have hq3 : Below w2.heap.size w2 w3 := by (repeat' (first | (with_reducible exact Below.refl _ _) | (with_reducible assumption) | (with_reducible refine Below.next ?_ (by with_reducible assumption)) | (with_reducible refine Below.drew ?_) | (with_reducible refine Below.laid ?_ _) | (with_reducible refine Below.setCell ?_ ?_ _) | (with_reducible refine size_of ?_) | (with_reducible refine Nat.le_succ_of_le ?_) | go_size))
    have hw3 : Below w.heap.size w w3 := Below.next hw2 hq3
    replace BF := BF.keep hq3
    try clear BF0 BF1 BFl
    obtain ⟨⟨BF0, BF1⟩, _⟩ := BF.cells2
    have BFl := BF.lt
    replace BW := BW.keep hq3
    try clear BW0 BW1 BW2 BW3 BWl
    obtain ⟨BW0, BW1, BW2, BW3⟩ := BW.cells4
    have BWl := BW.lt
    go_wp2_with fail
    refine (some_Each _ _ l c _ _ _ _ _ _ (HA.out.keep (by (repeat' (first | (with_reducible exact Below.refl _ _) | (with_reducible assumption) | (with_reducible refine Below.next ?_ (by with_reducible assumption)) | (with_reducible refine Below.drew ?_) | (with_reducible refine Below.laid ?_ _) | (with_reducible refine Below.setCell ?_ ?_ _) | (with_reducible refine size_of ?_) | (with_reducible refine Nat.le_succ_of_le ?_) | go_size)))) (HC.out.keep (by (repeat' (first | (with_reducible exact Below.refl _ _) | (with_reducible assumption) | (with_reducible refine Below.next ?_ (by with_reducible assumption)) | (with_reducible refine Below.drew ?_) | (with_reducible refine Below.laid ?_ _) | (with_reducible refine Below.setCell ?_ ?_ _) | (with_reducible refine size_of ?_) | (with_reducible refine Nat.le_succ_of_le ?_) | go_size)))) (HK.out.keep (by (repeat' (first | (with_reducible exact Below.refl _ _) | (with_reducible assumption) | (with_reducible refine Below.next ?_ (by with_reducible assumption)) | (with_reducible refine Below.drew ?_) | (with_reducible refine Below.laid ?_ _) | (with_reducible refine Below.setCell ?_ ?_ _) | (with_reducible refine size_of ?_) | (with_reducible refine Nat.le_succ_of_le ?_) | go_size))))).mono ?_
    rintro e w4 ⟨rfl, hb4⟩
    rw [HEA.out]
    have hq4 : Below w3.heap.size w3 w4 := by (repeat' (first | (with_reducible exact Below.refl _ _) | (with_reducible assumption) | (with_reducible refine Below.next ?_ (by with_reducible assumption)) | (with_reducible refine Below.drew ?_) | (with_reducible refine Below.laid ?_ _) | (with_reducible refine Below.setCell ?_ ?_ _) | (with_reducible refine size_of ?_) | (with_reducible refine Nat.le_succ_of_le ?_) | go_size))
    have hw4 : Below w.heap.size w w4 := Below.next hw3 hq4
    replace BF := BF.keep hq4
    try clear BF0 BF1 BFl
    obtain ⟨⟨BF0, BF1⟩, _⟩ := BF.cells2
    have BFl := BF.lt
    replace BW := BW.keep hq4
    try clear BW0 BW1 BW2 BW3 BWl
    obtain ⟨BW0, BW1, BW2, BW3⟩ := BW.cells4
    have BWl := BW.lt
    go_wp2_with fail
    refine (vennsame_Error _ _ _ (HET.out.keep (by (repeat' (first | (with_reducible exact Below.refl _ _) | (with_reducible assumption) | (with_reducible refine Below.next ?_ (by with_reducible assumption)) | (with_reducible refine Below.drew ?_) | (with_reducible refine Below.laid ?_ _) | (with_reducible refine Below.setCell ?_ ?_ _) | (with_reducible refine size_of ?_) | (with_reducible refine Nat.le_succ_of_le ?_) | go_size))))).mono ?_
    rintro e w5 ⟨rfl, hb5⟩
    have hq5 : Below w4.heap.size w4 w5 := by (repeat' (first | (with_reducible exact Below.refl _ _) | (with_reducible assumption) | (with_reducible refine Below.next ?_ (by with_reducible assumption)) | (with_reducible refine Below.drew ?_) | (with_reducible refine Below.laid ?_ _) | (with_reducible refine Below.setCell ?_ ?_ _) | (with_reducible refine size_of ?_) | (with_reducible refine Nat.le_succ_of_le ?_) | go_size))
    have hw5 : Below w.heap.size w w5 := Below.next hw4 hq5
    replace BF := BF.keep hq5
    try clear BF0 BF1 BFl
    obtain ⟨⟨BF0, BF1⟩, _⟩ := BF.cells2
    have BFl := BF.lt
    replace BW := BW.keep hq5
    try clear BW0 BW1 BW2 BW3 BWl
    obtain ⟨BW0, BW1, BW2, BW3⟩ := BW.cells4
    have BWl := BW.lt
    go_wp2_with fail
    refine (some_First _ _ l c _ _ _ _ _ _ (HA.out.keep (by (repeat' (first | (with_reducible exact Below.refl _ _) | (with_reducible assumption) | (with_reducible refine Below.next ?_ (by with_reducible assumption)) | (with_reducible refine Below.drew ?_) | (with_reducible refine Below.laid ?_ _) | (with_reducible refine Below.setCell ?_ ?_ _) | (with_reducible refine size_of ?_) | (with_reducible refine Nat.le_succ_of_le ?_) | go_size)))) (HC.out.keep (by (repeat' (first | (with_reducible exact Below.refl _ _) | (with_reducible assumption) | (with_reducible refine Below.next ?_ (by with_reducible assumption)) | (with_reducible refine Below.drew ?_) | (with_reducible refine Below.laid ?_ _) | (with_reducible refine Below.setCell ?_ ?_ _) | (with_reducible refine size_of ?_) | (with_reducible refine Nat.le_succ_of_le ?_) | go_size)))) (HK.out.keep (by (repeat' (first | (with_reducible exact Below.refl _ _) | (with_reducible assumption) | (with_reducible refine Below.next ?_ (by with_reducible assumption)) | (with_reducible refine Below.drew ?_) | (with_reducible refine Below.laid ?_ _) | (with_reducible refine Below.setCell ?_ ?_ _) | (with_reducible refine size_of ?_) | (with_reducible refine Nat.le_succ_of_le ?_) | go_size))))).mono ?_
    rintro e w6 ⟨rfl, hb6⟩
    rw [HF1.out]
    have hq6 : Below w5.heap.size w5 w6 := by (repeat' (first | (with_reducible exact Below.refl _ _) | (with_reducible assumption) | (with_reducible refine Below.next ?_ (by with_reducible assumption)) | (with_reducible refine Below.drew ?_) | (with_reducible refine Below.laid ?_ _) | (with_reducible refine Below.setCell ?_ ?_ _) | (with_reducible refine size_of ?_) | (with_reducible refine Nat.le_succ_of_le ?_) | go_size))
    have hw6 : Below w.heap.size w w6 := Below.next hw5 hq6
    replace BF := BF.keep hq6
    try clear BF0 BF1 BFl
    obtain ⟨⟨BF0, BF1⟩, _⟩ := BF.cells2
    have BFl := BF.lt
    replace BW := BW.keep hq6
    try clear BW0 BW1 BW2 BW3 BWl
    obtain ⟨BW0, BW1, BW2, BW3⟩ := BW.cells4
    have BWl := BW.lt
    go_wp2_with fail
    refine (vennsame_Error _ _ _ (HET.out.keep (by (repeat' (first | (with_reducible exact Below.refl _ _) | (with_reducible assumption) | (with_reducible refine Below.next ?_ (by with_reducible assumption)) | (with_reducible refine Below.drew ?_) | (with_reducible refine Below.laid ?_ _) | (with_reducible refine Below.setCell ?_ ?_ _) | (with_reducible refine size_of ?_) | (with_reducible refine Nat.le_succ_of_le ?_) | go_size))))).mono ?_
    rintro e w7 ⟨rfl, hb7⟩
    have hq7 : Below w6.heap.size w6 w7 := by (repeat' (first | (with_reducible exact Below.refl _ _) | (with_reducible assumption) | (with_reducible refine Below.next ?_ (by with_reducible assumption)) | (with_reducible refine Below.drew ?_) | (with_reducible refine Below.laid ?_ _) | (with_reducible refine Below.setCell ?_ ?_ _) | (with_reducible refine size_of ?_) | (with_reducible refine Nat.le_succ_of_le ?_) | go_size))
    have hw7 : Below w.heap.size w w7 := Below.next hw6 hq7
    go_wp2
    go_ret
    exact ⟨by simp, hw7⟩
  replace h1 := Decidable.not_not.1 h1
  have HX := Lib.hid h1
  by_cases h2 : Venn.nameOk name = true
  · have hn : Venn.someChk ⟨l, c⟩ name ⟨th, a, b, d⟩ = Venn.worldChk ⟨th, a, b, d⟩ := by rw [Venn.someChk, if_pos h1, h2, if_pos rfl]
    have HY := Lib.hid (show Venn.worldChk ⟨th, a, b, d⟩ = E by rw [hE, hn])
    have hn0 : ¬ name < 0 := by simp [Venn.nameOk] at h2; omega
    have hn2 : ¬ 2 < name := by simp [Venn.nameOk] at h2; omega
    clear h1 h2 hn hE hz
    go_enter Tryd.func4, Tryd.ntmps4
    go_wp2_with fail
    refine (ref_Form _ _ l c _ (HA.out.keep (by (repeat' (first | (with_reducible exact Below.refl _ _) | (with_reducible assumption) | (with_reducible refine Below.next ?_ (by with_reducible assumption)) | (with_reducible refine Below.drew ?_) | (with_reducible refine Below.laid ?_ _) | (with_reducible refine Below.setCell ?_ ?_ _) | (with_reducible refine size_of ?_) | (with_reducible refine Nat.le_succ_of_le ?_) | go_size)))) (HC.out.keep (by (repeat' (first | (with_reducible exact Below.refl _ _) | (with_reducible assumption) | (with_reducible refine Below.next ?_ (by with_reducible assumption)) | (with_reducible refine Below.drew ?_) | (with_reducible refine Below.laid ?_ _) | (with_reducible refine Below.setCell ?_ ?_ _) | (with_reducible refine size_of ?_) | (with_reducible refine Nat.le_succ_of_le ?_) | go_size))))).mono ?_
    rintro e w1 ⟨rfl, hb1⟩
    rw [HX.out]
    have hq1 : Below w.heap.size w w1 := by (repeat' (first | (with_reducible exact Below.refl _ _) | (with_reducible assumption) | (with_reducible refine Below.next ?_ (by with_reducible assumption)) | (with_reducible refine Below.drew ?_) | (with_reducible refine Below.laid ?_ _) | (with_reducible refine Below.setCell ?_ ?_ _) | (with_reducible refine size_of ?_) | (with_reducible refine Nat.le_succ_of_le ?_) | go_size))
    have hw1 : Below w.heap.size w w1 := hq1
    have BF : Blk w1 w.heap.size 25 #[.slice A l.length cA, .slice C c.length cC] := (boxes24 hb1).1
    have BW : Blk w1 (w.heap.size + 1) 28 #[.int .i64 th, .int .i64 a, .int .i64 b, .int .i64 d] := (boxes24 hb1).2
    obtain ⟨⟨BF0, BF1⟩, _⟩ := BF.cells2
    have BFl := BF.lt
    obtain ⟨BW0, BW1, BW2, BW3⟩ := BW.cells4
    have BWl := BW.lt
    go_wp2_with fail
    refine (ref_World _ _ _ _ _).mono ?_
    rintro e w2 ⟨rfl, hb2⟩
    rw [HY.out]
    have hq2 : Below w1.heap.size w1 w2 := by (repeat' (first | (with_reducible exact Below.refl _ _) | (with_reducible assumption) | (with_reducible refine Below.next ?_ (by with_reducible assumption)) | (with_reducible refine Below.drew ?_) | (with_reducible refine Below.laid ?_ _) | (with_reducible refine Below.setCell ?_ ?_ _) | (with_reducible refine size_of ?_) | (with_reducible refine Nat.le_succ_of_le ?_) | go_size))
    have hw2 : Below w.heap.size w w2 := Below.next hw1 hq2
    replace BF := BF.keep hq2
    try clear BF0 BF1 BFl
    obtain ⟨⟨BF0, BF1⟩, _⟩ := BF.cells2
    have BFl := BF.lt
    replace BW := BW.keep hq2
    try clear BW0 BW1 BW2 BW3 BWl
    obtain ⟨BW0, BW1, BW2, BW3⟩ := BW.cells4
    have BWl := BW.lt
    go_wp2_with fail
    refine (some_Is _ _ l c _ _ _ _ _ _ (HA.out.keep (by (repeat' (first | (with_reducible exact Below.refl _ _) | (with_reducible assumption) | (with_reducible refine Below.next ?_ (by with_reducible assumption)) | (with_reducible refine Below.drew ?_) | (with_reducible refine Below.laid ?_ _) | (with_reducible refine Below.setCell ?_ ?_ _) | (with_reducible refine size_of ?_) | (with_reducible refine Nat.le_succ_of_le ?_) | go_size)))) (HC.out.keep (by (repeat' (first | (with_reducible exact Below.refl _ _) | (with_reducible assumption) | (with_reducible refine Below.next ?_ (by with_reducible assumption)) | (with_reducible refine Below.drew ?_) | (with_reducible refine Below.laid ?_ _) | (with_reducible refine Below.setCell ?_ ?_ _) | (with_reducible refine size_of ?_) | (with_reducible refine Nat.le_succ_of_le ?_) | go_size)))) (HK.out.keep (by (repeat' (first | (with_reducible exact Below.refl _ _) | (with_reducible assumption) | (with_reducible refine Below.next ?_ (by with_reducible assumption)) | (with_reducible refine Below.drew ?_) | (with_reducible refine Below.laid ?_ _) | (with_reducible refine Below.setCell ?_ ?_ _) | (with_reducible refine size_of ?_) | (with_reducible refine Nat.le_succ_of_le ?_) | go_size))))).mono ?_
    rintro e w3 ⟨rfl, hb3⟩
    rw [HIS.out]
    have hq3 : Below w2.heap.size w2 w3 := by (repeat' (first | (with_reducible exact Below.refl _ _) | (with_reducible assumption) | (with_reducible refine Below.next ?_ (by with_reducible assumption)) | (with_reducible refine Below.drew ?_) | (with_reducible refine Below.laid ?_ _) | (with_reducible refine Below.setCell ?_ ?_ _) | (with_reducible refine size_of ?_) | (with_reducible refine Nat.le_succ_of_le ?_) | go_size))
    have hw3 : Below w.heap.size w w3 := Below.next hw2 hq3
    replace BF := BF.keep hq3
    try clear BF0 BF1 BFl
    obtain ⟨⟨BF0, BF1⟩, _⟩ := BF.cells2
    have BFl := BF.lt
    replace BW := BW.keep hq3
    try clear BW0 BW1 BW2 BW3 BWl
    obtain ⟨BW0, BW1, BW2, BW3⟩ := BW.cells4
    have BWl := BW.lt
    go_wp2_with fail
    refine (vennsame_Error _ _ _ (HET.out.keep (by (repeat' (first | (with_reducible exact Below.refl _ _) | (with_reducible assumption) | (with_reducible refine Below.next ?_ (by with_reducible assumption)) | (with_reducible refine Below.drew ?_) | (with_reducible refine Below.laid ?_ _) | (with_reducible refine Below.setCell ?_ ?_ _) | (with_reducible refine size_of ?_) | (with_reducible refine Nat.le_succ_of_le ?_) | go_size))))).mono ?_
    rintro e w4 ⟨rfl, hb4⟩
    have hq4 : Below w3.heap.size w3 w4 := by (repeat' (first | (with_reducible exact Below.refl _ _) | (with_reducible assumption) | (with_reducible refine Below.next ?_ (by with_reducible assumption)) | (with_reducible refine Below.drew ?_) | (with_reducible refine Below.laid ?_ _) | (with_reducible refine Below.setCell ?_ ?_ _) | (with_reducible refine size_of ?_) | (with_reducible refine Nat.le_succ_of_le ?_) | go_size))
    have hw4 : Below w.heap.size w w4 := Below.next hw3 hq4
    replace BF := BF.keep hq4
    try clear BF0 BF1 BFl
    obtain ⟨⟨BF0, BF1⟩, _⟩ := BF.cells2
    have BFl := BF.lt
    replace BW := BW.keep hq4
    try clear BW0 BW1 BW2 BW3 BWl
    obtain ⟨BW0, BW1, BW2, BW3⟩ := BW.cells4
    have BWl := BW.lt
    go_wp2_with fail
    refine (some_Each _ _ l c _ _ _ _ _ _ (HA.out.keep (by (repeat' (first | (with_reducible exact Below.refl _ _) | (with_reducible assumption) | (with_reducible refine Below.next ?_ (by with_reducible assumption)) | (with_reducible refine Below.drew ?_) | (with_reducible refine Below.laid ?_ _) | (with_reducible refine Below.setCell ?_ ?_ _) | (with_reducible refine size_of ?_) | (with_reducible refine Nat.le_succ_of_le ?_) | go_size)))) (HC.out.keep (by (repeat' (first | (with_reducible exact Below.refl _ _) | (with_reducible assumption) | (with_reducible refine Below.next ?_ (by with_reducible assumption)) | (with_reducible refine Below.drew ?_) | (with_reducible refine Below.laid ?_ _) | (with_reducible refine Below.setCell ?_ ?_ _) | (with_reducible refine size_of ?_) | (with_reducible refine Nat.le_succ_of_le ?_) | go_size)))) (HK.out.keep (by (repeat' (first | (with_reducible exact Below.refl _ _) | (with_reducible assumption) | (with_reducible refine Below.next ?_ (by with_reducible assumption)) | (with_reducible refine Below.drew ?_) | (with_reducible refine Below.laid ?_ _) | (with_reducible refine Below.setCell ?_ ?_ _) | (with_reducible refine size_of ?_) | (with_reducible refine Nat.le_succ_of_le ?_) | go_size))))).mono ?_
    rintro e w5 ⟨rfl, hb5⟩
    rw [HEA.out]
    have hq5 : Below w4.heap.size w4 w5 := by (repeat' (first | (with_reducible exact Below.refl _ _) | (with_reducible assumption) | (with_reducible refine Below.next ?_ (by with_reducible assumption)) | (with_reducible refine Below.drew ?_) | (with_reducible refine Below.laid ?_ _) | (with_reducible refine Below.setCell ?_ ?_ _) | (with_reducible refine size_of ?_) | (with_reducible refine Nat.le_succ_of_le ?_) | go_size))
    have hw5 : Below w.heap.size w w5 := Below.next hw4 hq5
    replace BF := BF.keep hq5
    try clear BF0 BF1 BFl
    obtain ⟨⟨BF0, BF1⟩, _⟩ := BF.cells2
    have BFl := BF.lt
    replace BW := BW.keep hq5
    try clear BW0 BW1 BW2 BW3 BWl
    obtain ⟨BW0, BW1, BW2, BW3⟩ := BW.cells4
    have BWl := BW.lt
    go_wp2_with fail
    refine (vennsame_Error _ _ _ (HET.out.keep (by (repeat' (first | (with_reducible exact Below.refl _ _) | (with_reducible assumption) | (with_reducible refine Below.next ?_ (by with_reducible assumption)) | (with_reducible refine Below.drew ?_) | (with_reducible refine Below.laid ?_ _) | (with_reducible refine Below.setCell ?_ ?_ _) | (with_reducible refine size_of ?_) | (with_reducible refine Nat.le_succ_of_le ?_) | go_size))))).mono ?_
    rintro e w6 ⟨rfl, hb6⟩
    have hq6 : Below w5.heap.size w5 w6 := by (repeat' (first | (with_reducible exact Below.refl _ _) | (with_reducible assumption) | (with_reducible refine Below.next ?_ (by with_reducible assumption)) | (with_reducible refine Below.drew ?_) | (with_reducible refine Below.laid ?_ _) | (with_reducible refine Below.setCell ?_ ?_ _) | (with_reducible refine size_of ?_) | (with_reducible refine Nat.le_succ_of_le ?_) | go_size))
    have hw6 : Below w.heap.size w w6 := Below.next hw5 hq6
    replace BF := BF.keep hq6
    try clear BF0 BF1 BFl
    obtain ⟨⟨BF0, BF1⟩, _⟩ := BF.cells2
    have BFl := BF.lt
    replace BW := BW.keep hq6
    try clear BW0 BW1 BW2 BW3 BWl
    obtain ⟨BW0, BW1, BW2, BW3⟩ := BW.cells4
    have BWl := BW.lt
    go_wp2_with fail
    refine (some_First _ _ l c _ _ _ _ _ _ (HA.out.keep (by (repeat' (first | (with_reducible exact Below.refl _ _) | (with_reducible assumption) | (with_reducible refine Below.next ?_ (by with_reducible assumption)) | (with_reducible refine Below.drew ?_) | (with_reducible refine Below.laid ?_ _) | (with_reducible refine Below.setCell ?_ ?_ _) | (with_reducible refine size_of ?_) | (with_reducible refine Nat.le_succ_of_le ?_) | go_size)))) (HC.out.keep (by (repeat' (first | (with_reducible exact Below.refl _ _) | (with_reducible assumption) | (with_reducible refine Below.next ?_ (by with_reducible assumption)) | (with_reducible refine Below.drew ?_) | (with_reducible refine Below.laid ?_ _) | (with_reducible refine Below.setCell ?_ ?_ _) | (with_reducible refine size_of ?_) | (with_reducible refine Nat.le_succ_of_le ?_) | go_size)))) (HK.out.keep (by (repeat' (first | (with_reducible exact Below.refl _ _) | (with_reducible assumption) | (with_reducible refine Below.next ?_ (by with_reducible assumption)) | (with_reducible refine Below.drew ?_) | (with_reducible refine Below.laid ?_ _) | (with_reducible refine Below.setCell ?_ ?_ _) | (with_reducible refine size_of ?_) | (with_reducible refine Nat.le_succ_of_le ?_) | go_size))))).mono ?_
    rintro e w7 ⟨rfl, hb7⟩
    rw [HF1.out]
    have hq7 : Below w6.heap.size w6 w7 := by (repeat' (first | (with_reducible exact Below.refl _ _) | (with_reducible assumption) | (with_reducible refine Below.next ?_ (by with_reducible assumption)) | (with_reducible refine Below.drew ?_) | (with_reducible refine Below.laid ?_ _) | (with_reducible refine Below.setCell ?_ ?_ _) | (with_reducible refine size_of ?_) | (with_reducible refine Nat.le_succ_of_le ?_) | go_size))
    have hw7 : Below w.heap.size w w7 := Below.next hw6 hq7
    replace BF := BF.keep hq7
    try clear BF0 BF1 BFl
    obtain ⟨⟨BF0, BF1⟩, _⟩ := BF.cells2
    have BFl := BF.lt
    replace BW := BW.keep hq7
    try clear BW0 BW1 BW2 BW3 BWl
    obtain ⟨BW0, BW1, BW2, BW3⟩ := BW.cells4
    have BWl := BW.lt
    go_wp2_with fail
    refine (vennsame_Error _ _ _ (HET.out.keep (by (repeat' (first | (with_reducible exact Below.refl _ _) | (with_reducible assumption) | (with_reducible refine Below.next ?_ (by with_reducible assumption)) | (with_reducible refine Below.drew ?_) | (with_reducible refine Below.laid ?_ _) | (with_reducible refine Below.setCell ?_ ?_ _) | (with_reducible refine size_of ?_) | (with_reducible refine Nat.le_succ_of_le ?_) | go_size))))).mono ?_
    rintro e w8 ⟨rfl, hb8⟩
    have hq8 : Below w7.heap.size w7 w8 := by (repeat' (first | (with_reducible exact Below.refl _ _) | (with_reducible assumption) | (with_reducible refine Below.next ?_ (by with_reducible assumption)) | (with_reducible refine Below.drew ?_) | (with_reducible refine Below.laid ?_ _) | (with_reducible refine Below.setCell ?_ ?_ _) | (with_reducible refine size_of ?_) | (with_reducible refine Nat.le_succ_of_le ?_) | go_size))
    have hw8 : Below w.heap.size w w8 := Below.next hw7 hq8
    go_wp2
    go_ret
    exact ⟨by simp, hw8⟩
  · have HY := Lib.hid (show E = 1 by rw [hE, Venn.someChk, if_pos h1, if_neg h2])
    have hn : name < 0 ∨ (¬ name < 0 ∧ 2 < name) := by simp [Venn.nameOk] at h2; omega
    obtain rfl := HY.out
    clear h1 h2 hE hz q
    rcases hn with hn | ⟨hn, hn2⟩
    all_goals
      go_enter Tryd.func4, Tryd.ntmps4
      go_wp2_with fail
      refine (ref_Form _ _ l c _ (HA.out.keep (by (repeat' (first | (with_reducible exact Below.refl _ _) | (with_reducible assumption) | (with_reducible refine Below.next ?_ (by with_reducible assumption)) | (with_reducible refine Below.drew ?_) | (with_reducible refine Below.laid ?_ _) | (with_reducible refine Below.setCell ?_ ?_ _) | (with_reducible refine size_of ?_) | (with_reducible refine Nat.le_succ_of_le ?_) | go_size)))) (HC.out.keep (by (repeat' (first | (with_reducible exact Below.refl _ _) | (with_reducible assumption) | (with_reducible refine Below.next ?_ (by with_reducible assumption)) | (with_reducible refine Below.drew ?_) | (with_reducible refine Below.laid ?_ _) | (with_reducible refine Below.setCell ?_ ?_ _) | (with_reducible refine size_of ?_) | (with_reducible refine Nat.le_succ_of_le ?_) | go_size))))).mono ?_
      rintro e w1 ⟨rfl, hb1⟩
      rw [HX.out]
      have hq1 : Below w.heap.size w w1 := by (repeat' (first | (with_reducible exact Below.refl _ _) | (with_reducible assumption) | (with_reducible refine Below.next ?_ (by with_reducible assumption)) | (with_reducible refine Below.drew ?_) | (with_reducible refine Below.laid ?_ _) | (with_reducible refine Below.setCell ?_ ?_ _) | (with_reducible refine size_of ?_) | (with_reducible refine Nat.le_succ_of_le ?_) | go_size))
      have hw1 : Below w.heap.size w w1 := hq1
      have BF : Blk w1 w.heap.size 25 #[.slice A l.length cA, .slice C c.length cC] := (boxes24 hb1).1
      have BW : Blk w1 (w.heap.size + 1) 28 #[.int .i64 th, .int .i64 a, .int .i64 b, .int .i64 d] := (boxes24 hb1).2
      obtain ⟨⟨BF0, BF1⟩, _⟩ := BF.cells2
      have BFl := BF.lt
      obtain ⟨BW0, BW1, BW2, BW3⟩ := BW.cells4
      have BWl := BW.lt
      go_wp2_with fail
      refine (some_Is _ _ l c _ _ _ _ _ _ (HA.out.keep (by (repeat' (first | (with_reducible exact Below.refl _ _) | (with_reducible assumption) | (with_reducible refine Below.next ?_ (by with_reducible assumption)) | (with_reducible refine Below.drew ?_) | (with_reducible refine Below.laid ?_ _) | (with_reducible refine Below.setCell ?_ ?_ _) | (with_reducible refine size_of ?_) | (with_reducible refine Nat.le_succ_of_le ?_) | go_size)))) (HC.out.keep (by (repeat' (first | (with_reducible exact Below.refl _ _) | (with_reducible assumption) | (with_reducible refine Below.next ?_ (by with_reducible assumption)) | (with_reducible refine Below.drew ?_) | (with_reducible refine Below.laid ?_ _) | (with_reducible refine Below.setCell ?_ ?_ _) | (with_reducible refine size_of ?_) | (with_reducible refine Nat.le_succ_of_le ?_) | go_size)))) (HK.out.keep (by (repeat' (first | (with_reducible exact Below.refl _ _) | (with_reducible assumption) | (with_reducible refine Below.next ?_ (by with_reducible assumption)) | (with_reducible refine Below.drew ?_) | (with_reducible refine Below.laid ?_ _) | (with_reducible refine Below.setCell ?_ ?_ _) | (with_reducible refine size_of ?_) | (with_reducible refine Nat.le_succ_of_le ?_) | go_size))))).mono ?_
      rintro e w2 ⟨rfl, hb2⟩
      rw [HIS.out]
      have hq2 : Below w1.heap.size w1 w2 := by (repeat' (first | (with_reducible exact Below.refl _ _) | (with_reducible assumption) | (with_reducible refine Below.next ?_ (by with_reducible assumption)) | (with_reducible refine Below.drew ?_) | (with_reducible refine Below.laid ?_ _) | (with_reducible refine Below.setCell ?_ ?_ _) | (with_reducible refine size_of ?_) | (with_reducible refine Nat.le_succ_of_le ?_) | go_size))
      have hw2 : Below w.heap.size w w2 := Below.next hw1 hq2
      replace BF := BF.keep hq2
      try clear BF0 BF1 BFl
      obtain ⟨⟨BF0, BF1⟩, _⟩ := BF.cells2
      have BFl := BF.lt
      replace BW := BW.keep hq2
      try clear BW0 BW1 BW2 BW3 BWl
      obtain ⟨BW0, BW1, BW2, BW3⟩ := BW.cells4
      have BWl := BW.lt
      go_wp2_with fail
      refine (vennsame_Error _ _ _ (HET.out.keep (by (repeat' (first | (with_reducible exact Below.refl _ _) | (with_reducible assumption) | (with_reducible refine Below.next ?_ (by with_reducible assumption)) | (with_reducible refine Below.drew ?_) | (with_reducible refine Below.laid ?_ _) | (with_reducible refine Below.setCell ?_ ?_ _) | (with_reducible refine size_of ?_) | (with_reducible refine Nat.le_succ_of_le ?_) | go_size))))).mono ?_
      rintro e w3 ⟨rfl, hb3⟩
      have hq3 : Below w2.heap.size w2 w3 := by (repeat' (first | (with_reducible exact Below.refl _ _) | (with_reducible assumption) | (with_reducible refine Below.next ?_ (by with_reducible assumption)) | (with_reducible refine Below.drew ?_) | (with_reducible refine Below.laid ?_ _) | (with_reducible refine Below.setCell ?_ ?_ _) | (with_reducible refine size_of ?_) | (with_reducible refine Nat.le_succ_of_le ?_) | go_size))
      have hw3 : Below w.heap.size w w3 := Below.next hw2 hq3
      replace BF := BF.keep hq3
      try clear BF0 BF1 BFl
      obtain ⟨⟨BF0, BF1⟩, _⟩ := BF.cells2
      have BFl := BF.lt
      replace BW := BW.keep hq3
      try clear BW0 BW1 BW2 BW3 BWl
      obtain ⟨BW0, BW1, BW2, BW3⟩ := BW.cells4
      have BWl := BW.lt
      go_wp2_with fail
      refine (some_Each _ _ l c _ _ _ _ _ _ (HA.out.keep (by (repeat' (first | (with_reducible exact Below.refl _ _) | (with_reducible assumption) | (with_reducible refine Below.next ?_ (by with_reducible assumption)) | (with_reducible refine Below.drew ?_) | (with_reducible refine Below.laid ?_ _) | (with_reducible refine Below.setCell ?_ ?_ _) | (with_reducible refine size_of ?_) | (with_reducible refine Nat.le_succ_of_le ?_) | go_size)))) (HC.out.keep (by (repeat' (first | (with_reducible exact Below.refl _ _) | (with_reducible assumption) | (with_reducible refine Below.next ?_ (by with_reducible assumption)) | (with_reducible refine Below.drew ?_) | (with_reducible refine Below.laid ?_ _) | (with_reducible refine Below.setCell ?_ ?_ _) | (with_reducible refine size_of ?_) | (with_reducible refine Nat.le_succ_of_le ?_) | go_size)))) (HK.out.keep (by (repeat' (first | (with_reducible exact Below.refl _ _) | (with_reducible assumption) | (with_reducible refine Below.next ?_ (by with_reducible assumption)) | (with_reducible refine Below.drew ?_) | (with_reducible refine Below.laid ?_ _) | (with_reducible refine Below.setCell ?_ ?_ _) | (with_reducible refine size_of ?_) | (with_reducible refine Nat.le_succ_of_le ?_) | go_size))))).mono ?_
      rintro e w4 ⟨rfl, hb4⟩
      rw [HEA.out]
      have hq4 : Below w3.heap.size w3 w4 := by (repeat' (first | (with_reducible exact Below.refl _ _) | (with_reducible assumption) | (with_reducible refine Below.next ?_ (by with_reducible assumption)) | (with_reducible refine Below.drew ?_) | (with_reducible refine Below.laid ?_ _) | (with_reducible refine Below.setCell ?_ ?_ _) | (with_reducible refine size_of ?_) | (with_reducible refine Nat.le_succ_of_le ?_) | go_size))
      have hw4 : Below w.heap.size w w4 := Below.next hw3 hq4
      replace BF := BF.keep hq4
      try clear BF0 BF1 BFl
      obtain ⟨⟨BF0, BF1⟩, _⟩ := BF.cells2
      have BFl := BF.lt
      replace BW := BW.keep hq4
      try clear BW0 BW1 BW2 BW3 BWl
      obtain ⟨BW0, BW1, BW2, BW3⟩ := BW.cells4
      have BWl := BW.lt
      go_wp2_with fail
      refine (vennsame_Error _ _ _ (HET.out.keep (by (repeat' (first | (with_reducible exact Below.refl _ _) | (with_reducible assumption) | (with_reducible refine Below.next ?_ (by with_reducible assumption)) | (with_reducible refine Below.drew ?_) | (with_reducible refine Below.laid ?_ _) | (with_reducible refine Below.setCell ?_ ?_ _) | (with_reducible refine size_of ?_) | (with_reducible refine Nat.le_succ_of_le ?_) | go_size))))).mono ?_
      rintro e w5 ⟨rfl, hb5⟩
      have hq5 : Below w4.heap.size w4 w5 := by (repeat' (first | (with_reducible exact Below.refl _ _) | (with_reducible assumption) | (with_reducible refine Below.next ?_ (by with_reducible assumption)) | (with_reducible refine Below.drew ?_) | (with_reducible refine Below.laid ?_ _) | (with_reducible refine Below.setCell ?_ ?_ _) | (with_reducible refine size_of ?_) | (with_reducible refine Nat.le_succ_of_le ?_) | go_size))
      have hw5 : Below w.heap.size w w5 := Below.next hw4 hq5
      replace BF := BF.keep hq5
      try clear BF0 BF1 BFl
      obtain ⟨⟨BF0, BF1⟩, _⟩ := BF.cells2
      have BFl := BF.lt
      replace BW := BW.keep hq5
      try clear BW0 BW1 BW2 BW3 BWl
      obtain ⟨BW0, BW1, BW2, BW3⟩ := BW.cells4
      have BWl := BW.lt
      go_wp2_with fail
      refine (some_First _ _ l c _ _ _ _ _ _ (HA.out.keep (by (repeat' (first | (with_reducible exact Below.refl _ _) | (with_reducible assumption) | (with_reducible refine Below.next ?_ (by with_reducible assumption)) | (with_reducible refine Below.drew ?_) | (with_reducible refine Below.laid ?_ _) | (with_reducible refine Below.setCell ?_ ?_ _) | (with_reducible refine size_of ?_) | (with_reducible refine Nat.le_succ_of_le ?_) | go_size)))) (HC.out.keep (by (repeat' (first | (with_reducible exact Below.refl _ _) | (with_reducible assumption) | (with_reducible refine Below.next ?_ (by with_reducible assumption)) | (with_reducible refine Below.drew ?_) | (with_reducible refine Below.laid ?_ _) | (with_reducible refine Below.setCell ?_ ?_ _) | (with_reducible refine size_of ?_) | (with_reducible refine Nat.le_succ_of_le ?_) | go_size)))) (HK.out.keep (by (repeat' (first | (with_reducible exact Below.refl _ _) | (with_reducible assumption) | (with_reducible refine Below.next ?_ (by with_reducible assumption)) | (with_reducible refine Below.drew ?_) | (with_reducible refine Below.laid ?_ _) | (with_reducible refine Below.setCell ?_ ?_ _) | (with_reducible refine size_of ?_) | (with_reducible refine Nat.le_succ_of_le ?_) | go_size))))).mono ?_
      rintro e w6 ⟨rfl, hb6⟩
      rw [HF1.out]
      have hq6 : Below w5.heap.size w5 w6 := by (repeat' (first | (with_reducible exact Below.refl _ _) | (with_reducible assumption) | (with_reducible refine Below.next ?_ (by with_reducible assumption)) | (with_reducible refine Below.drew ?_) | (with_reducible refine Below.laid ?_ _) | (with_reducible refine Below.setCell ?_ ?_ _) | (with_reducible refine size_of ?_) | (with_reducible refine Nat.le_succ_of_le ?_) | go_size))
      have hw6 : Below w.heap.size w w6 := Below.next hw5 hq6
      replace BF := BF.keep hq6
      try clear BF0 BF1 BFl
      obtain ⟨⟨BF0, BF1⟩, _⟩ := BF.cells2
      have BFl := BF.lt
      replace BW := BW.keep hq6
      try clear BW0 BW1 BW2 BW3 BWl
      obtain ⟨BW0, BW1, BW2, BW3⟩ := BW.cells4
      have BWl := BW.lt
      go_wp2_with fail
      refine (vennsame_Error _ _ _ (HET.out.keep (by (repeat' (first | (with_reducible exact Below.refl _ _) | (with_reducible assumption) | (with_reducible refine Below.next ?_ (by with_reducible assumption)) | (with_reducible refine Below.drew ?_) | (with_reducible refine Below.laid ?_ _) | (with_reducible refine Below.setCell ?_ ?_ _) | (with_reducible refine size_of ?_) | (with_reducible refine Nat.le_succ_of_le ?_) | go_size))))).mono ?_
      rintro e w7 ⟨rfl, hb7⟩
      have hq7 : Below w6.heap.size w6 w7 := by (repeat' (first | (with_reducible exact Below.refl _ _) | (with_reducible assumption) | (with_reducible refine Below.next ?_ (by with_reducible assumption)) | (with_reducible refine Below.drew ?_) | (with_reducible refine Below.laid ?_ _) | (with_reducible refine Below.setCell ?_ ?_ _) | (with_reducible refine size_of ?_) | (with_reducible refine Nat.le_succ_of_le ?_) | go_size))
      have hw7 : Below w.heap.size w w7 := Below.next hw6 hq7
      go_wp2
      go_ret
      exact ⟨by simp, hw7⟩
set_option maxHeartbeats 8000000 in
set_option maxRecDepth 100000 in
theorem someTells_0 (sa sc : Value) (l : List Venn.Atom) (c : List Int) (th a b d : Int) (w : World) (ha : IsAtoms w sa l) (hc : IsInts w sc c) (hk : KindsOk w) (het : EtOk w) (hf : Venn.formChk ⟨l, c⟩ = 0) (hw : Venn.worldChk ⟨th, a, b, d⟩ = 0) :
    Calls Tryd.prog 4 #[.agg #[sa, sc], .int .i64 0, .agg #[.int .i64 th, .int .i64 a, .int .i64 b, .int .i64 d]] w (Keeps (.bool true) w) := by
  obtain ⟨A, cA, rfl⟩ := ha.slice
  obtain ⟨C, cC, rfl⟩ := hc.slice
  have HA := Lib.hid ha
  have HC := Lib.hid hc
  have HK := Lib.hid hk
  have HET := Lib.hid het
  clear ha hc hk het
  have hz : Venn.someChk ⟨l, c⟩ 0 ⟨th, a, b, d⟩ = 0 := by rw [Venn.someChk, if_pos hf, if_pos (by decide), hw]
  obtain ⟨pT, hpT⟩ : ∃ p : Nat → Bool, p = (fun s : Nat => Venn.formTrue ⟨l, c⟩ ((⟨th, a, b, d⟩ : Venn.World).put 0 (s : Int)) == true) := ⟨_, rfl⟩
  obtain ⟨pF, hpF⟩ : ∃ p : Nat → Bool, p = (fun s : Nat => Venn.formTrue ⟨l, c⟩ ((⟨th, a, b, d⟩ : Venn.World).put 0 (s : Int)) == false) := ⟨_, rfl⟩
  obtain ⟨N, hN⟩ : ∃ N : Nat, N = 2 ^ th.toNat := ⟨_, rfl⟩
  obtain ⟨FT, hFT⟩ : ∃ F, F = Venn.firstFrom pT N 0 := ⟨_, rfl⟩
  obtain ⟨EB, hEB⟩ : ∃ F : Bool, F = decide (Venn.firstFrom pF N 0 < 0) := ⟨_, rfl⟩
  have h1 : Venn.firstSet ⟨l, c⟩ 0 ⟨th, a, b, d⟩ true = FT := by rw [hFT, hN, hpT]; rfl
  have h2 : decide (Venn.firstSet ⟨l, c⟩ 0 ⟨th, a, b, d⟩ false < 0) = EB := by rw [hEB, hN, hpF]; rfl
  have HIS := Lib.hid (show Value.tuple #[.bool (someIsV l c 0 th a b d), errV (Venn.someChk ⟨l, c⟩ 0 ⟨th, a, b, d⟩)] = .tuple #[.bool (decide (0 ≤ FT)), errV 0] by rw [someIsV, if_pos hz, hz, h1])
  have HEA := Lib.hid (show Value.tuple #[.bool (someEachV l c 0 th a b d), errV (Venn.someChk ⟨l, c⟩ 0 ⟨th, a, b, d⟩)] = .tuple #[.bool EB, errV 0] by rw [someEachV, if_pos hz, hz, h2])
  have HF1 := Lib.hid (show firstVv l c 0 th a b d = if FT < 0 then .tuple #[.int .i64 0, errV 5] else .tuple #[.int .i64 FT, errV 0] by
    by_cases hn : FT < 0
    · have g2 : Venn.someFirstChk ⟨l, c⟩ 0 ⟨th, a, b, d⟩ = 5 := by rw [Venn.someFirstChk, if_pos hz, h1, if_pos hn]
      rw [firstVv, Venn.someFirstV, if_neg (by rw [g2]; decide), g2, if_pos hn]
    · have g2 : Venn.someFirstChk ⟨l, c⟩ 0 ⟨th, a, b, d⟩ = 0 := by rw [Venn.someFirstChk, if_pos hz, h1, if_neg hn]
      rw [firstVv, Venn.someFirstV, if_pos g2, g2, h1, if_neg hn])
  obtain ⟨hth, hwa, hwb, hwc⟩ := Venn.worldChk_iff.1 hw
  obtain ⟨hs0, hs63, hs2⟩ := allS_63 hth
  simp only at hth hs0 hs63 hs2 hwa hwb hwc
  rw [← hN] at hs2
  have hN64 : N ≤ 64 := by omega
  have HSW := Lib.hid (show ∀ k : Nat, k < N → Venn.worldChk ⟨th, (k : Int), b, d⟩ = 0 from fun k hk => Venn.worldChk_iff.2 ⟨hth, setChk_le hth (by omega), hwb, hwc⟩)
  have HDT := Lib.hid (show ∀ k : Nat, k < N → Venn.firstFrom pT (N - k) k = if Venn.formTrue ⟨l, c⟩ ⟨th, (k : Int), b, d⟩ = true then (k : Int) else Venn.firstFrom pT (N - (k + 1)) (k + 1) from fun k hk => by
    rw [Venn.firstFrom_down hk, hpT]
    have : (Venn.formTrue ⟨l, c⟩ ((⟨th, a, b, d⟩ : Venn.World).put 0 (k : Int)) == true) = Venn.formTrue ⟨l, c⟩ ⟨th, (k : Int), b, d⟩ := by
      rw [show (⟨th, a, b, d⟩ : Venn.World).put 0 (k : Int) = ⟨th, (k : Int), b, d⟩ from rfl]; simp
    simp only [this])
  have HDF := Lib.hid (show ∀ k : Nat, k < N → decide (Venn.firstFrom pF (N - k) k < 0) = if Venn.formTrue ⟨l, c⟩ ⟨th, (k : Int), b, d⟩ = true then decide (Venn.firstFrom pF (N - (k + 1)) (k + 1) < 0) else false from fun k hk => by
    rw [Venn.firstFrom_down hk, hpF]
    have : (Venn.formTrue ⟨l, c⟩ ((⟨th, a, b, d⟩ : Venn.World).put 0 (k : Int)) == false) = !Venn.formTrue ⟨l, c⟩ ⟨th, (k : Int), b, d⟩ := by
      rw [show (⟨th, a, b, d⟩ : Venn.World).put 0 (k : Int) = ⟨th, (k : Int), b, d⟩ from rfl]; cases Venn.formTrue ⟨l, c⟩ ⟨th, (k : Int), b, d⟩ <;> rfl
    simp only [this]
    cases Venn.formTrue ⟨l, c⟩ ⟨th, (k : Int), b, d⟩
    · simp
    · simp)
  have HX := Lib.hid hf
  have HY := Lib.hid hw
  have HFT := Lib.hid hFT
  have HEB := Lib.hid hEB
  have hth6 : th ≤ 61 := by simp [Venn.things] at hth; omega
  have HPW := Lib.hid (fun W => ref_Power th W hth6)
  rw [← hN] at HPW
  have hwr : IntKind.i64.wrap ((N : Int) - 1) = (N : Int) - 1 := IntWalk.i64_in _ (by omega)
  clear hf hw hz hpT hpF hN hFT hEB h1 h2 hth hwa hwb hwc hs0 hs2 hth6
  go_enter Tryd.func4, Tryd.ntmps4
  go_wp2_with fail
  refine (ref_Form _ _ l c _ (HA.out.keep (by (repeat' (first | (with_reducible exact Below.refl _ _) | (with_reducible assumption) | (with_reducible refine Below.next ?_ (by with_reducible assumption)) | (with_reducible refine Below.drew ?_) | (with_reducible refine Below.laid ?_ _) | (with_reducible refine Below.setCell ?_ ?_ _) | (with_reducible refine size_of ?_) | (with_reducible refine Nat.le_succ_of_le ?_) | go_size)))) (HC.out.keep (by (repeat' (first | (with_reducible exact Below.refl _ _) | (with_reducible assumption) | (with_reducible refine Below.next ?_ (by with_reducible assumption)) | (with_reducible refine Below.drew ?_) | (with_reducible refine Below.laid ?_ _) | (with_reducible refine Below.setCell ?_ ?_ _) | (with_reducible refine size_of ?_) | (with_reducible refine Nat.le_succ_of_le ?_) | go_size))))).mono ?_
  rintro e w1 ⟨rfl, hb1⟩
  rw [HX.out]
  have hq1 : Below w.heap.size w w1 := by (repeat' (first | (with_reducible exact Below.refl _ _) | (with_reducible assumption) | (with_reducible refine Below.next ?_ (by with_reducible assumption)) | (with_reducible refine Below.drew ?_) | (with_reducible refine Below.laid ?_ _) | (with_reducible refine Below.setCell ?_ ?_ _) | (with_reducible refine size_of ?_) | (with_reducible refine Nat.le_succ_of_le ?_) | go_size))
  have hw1 : Below w.heap.size w w1 := hq1
  have BF : Blk w1 w.heap.size 25 #[.slice A l.length cA, .slice C c.length cC] := (boxes24 hb1).1
  have BW : Blk w1 (w.heap.size + 1) 28 #[.int .i64 th, .int .i64 a, .int .i64 b, .int .i64 d] := (boxes24 hb1).2
  obtain ⟨⟨BF0, BF1⟩, _⟩ := BF.cells2
  have BFl := BF.lt
  obtain ⟨BW0, BW1, BW2, BW3⟩ := BW.cells4
  have BWl := BW.lt
  go_wp2_with fail
  refine (ref_World _ _ _ _ _).mono ?_
  rintro e w2 ⟨rfl, hb2⟩
  rw [HY.out]
  have hq2 : Below w1.heap.size w1 w2 := by (repeat' (first | (with_reducible exact Below.refl _ _) | (with_reducible assumption) | (with_reducible refine Below.next ?_ (by with_reducible assumption)) | (with_reducible refine Below.drew ?_) | (with_reducible refine Below.laid ?_ _) | (with_reducible refine Below.setCell ?_ ?_ _) | (with_reducible refine size_of ?_) | (with_reducible refine Nat.le_succ_of_le ?_) | go_size))
  have hw2 : Below w.heap.size w w2 := Below.next hw1 hq2
  replace BF := BF.keep hq2
  try clear BF0 BF1 BFl
  obtain ⟨⟨BF0, BF1⟩, _⟩ := BF.cells2
  have BFl := BF.lt
  replace BW := BW.keep hq2
  try clear BW0 BW1 BW2 BW3 BWl
  obtain ⟨BW0, BW1, BW2, BW3⟩ := BW.cells4
  have BWl := BW.lt
  have hlt2 := BW.lt
  go_wp2_with (go_at_call 19; refine (HPW.out _).mono ?_; rintro e w' ⟨rfl, rfl⟩)
  go_loopw [8, 9, 11] (fun fi ea s wr => ∃ (k : Nat) (J X : Int), k ≤ N ∧ J + 1 = (k : Int) ∧ s = .int .i64 J ∧ fi = .int .i64 (Venn.firstFrom pT (N - k) k) ∧ ea = .bool (decide (Venn.firstFrom pF (N - k) k < 0)) ∧ Below w.heap.size w wr ∧ Blk wr w.heap.size 25 #[.slice A l.length cA, .slice C c.length cC] ∧ Blk wr (w.heap.size + 1) 28 #[.int .i64 th, .int .i64 a, .int .i64 b, .int .i64 d] ∧ Blk wr w2.heap.size 28 #[.int .i64 th, .int .i64 X, .int .i64 b, .int .i64 d])
    (fun _ _ s _ => (intOf s + 1).toNat)
  case atStart => exact ⟨N, (N : Int) - 1, _, Nat.le_refl _, by omega, rfl, by rw [Nat.sub_self]; rfl, by rw [Nat.sub_self]; rfl, by (repeat' (first | (with_reducible exact Below.refl _ _) | (with_reducible assumption) | (with_reducible refine Below.next ?_ (by with_reducible assumption)) | (with_reducible refine Below.drew ?_) | (with_reducible refine Below.laid ?_ _) | (with_reducible refine Below.setCell ?_ ?_ _) | (with_reducible refine size_of ?_) | (with_reducible refine Nat.le_succ_of_le ?_) | go_size)), BF.alloc _, BW.alloc _, Blk.new _ _ _⟩
  case round =>
    clear BF0 BF1 BFl BW0 BW1 BW2 BW3 BWl BF BW
    obtain ⟨k, J, X, hk, hJ, rfl, rfl, rfl, hb, hBF, hBW, hBX⟩ := hrel
    obtain ⟨wo, rfl⟩ : ∃ wo : World, wo = wr := ⟨_, rfl⟩
    rcases k with _ | k
    · have hJ0 : ¬ 0 ≤ J := by omega
      rw [Nat.sub_zero, ← HFT.out, ← HEB.out]
      have BF := hBF
      have BW := hBW
      have hw3 := hb
      obtain ⟨w3, rfl⟩ : ∃ w3 : World, w3 = wo := ⟨_, rfl⟩
      obtain ⟨⟨BF0, BF1⟩, _⟩ := BF.cells2
      have BFl := BF.lt
      obtain ⟨BW0, BW1, BW2, BW3⟩ := BW.cells4
      have BWl := BW.lt
      by_cases hneg : FT < 0
      · have hd : decide (0 ≤ FT) = false := by simp; omega
        rw [hd] at HIS
        rw [if_pos hneg] at HF1
        have hge : ¬ 0 ≤ FT := by omega
        go_wp2_with fail
        refine (some_Is _ _ l c _ _ _ _ _ _ (HA.out.keep (by (repeat' (first | (with_reducible exact Below.refl _ _) | (with_reducible assumption) | (with_reducible refine Below.next ?_ (by with_reducible assumption)) | (with_reducible refine Below.drew ?_) | (with_reducible refine Below.laid ?_ _) | (with_reducible refine Below.setCell ?_ ?_ _) | (with_reducible refine size_of ?_) | (with_reducible refine Nat.le_succ_of_le ?_) | go_size)))) (HC.out.keep (by (repeat' (first | (with_reducible exact Below.refl _ _) | (with_reducible assumption) | (with_reducible refine Below.next ?_ (by with_reducible assumption)) | (with_reducible refine Below.drew ?_) | (with_reducible refine Below.laid ?_ _) | (with_reducible refine Below.setCell ?_ ?_ _) | (with_reducible refine size_of ?_) | (with_reducible refine Nat.le_succ_of_le ?_) | go_size)))) (HK.out.keep (by (repeat' (first | (with_reducible exact Below.refl _ _) | (with_reducible assumption) | (with_reducible refine Below.next ?_ (by with_reducible assumption)) | (with_reducible refine Below.drew ?_) | (with_reducible refine Below.laid ?_ _) | (with_reducible refine Below.setCell ?_ ?_ _) | (with_reducible refine size_of ?_) | (with_reducible refine Nat.le_succ_of_le ?_) | go_size))))).mono ?_
        rintro e w4 ⟨rfl, hb4⟩
        rw [HIS.out]
        have hq4 : Below w3.heap.size w3 w4 := by (repeat' (first | (with_reducible exact Below.refl _ _) | (with_reducible assumption) | (with_reducible refine Below.next ?_ (by with_reducible assumption)) | (with_reducible refine Below.drew ?_) | (with_reducible refine Below.laid ?_ _) | (with_reducible refine Below.setCell ?_ ?_ _) | (with_reducible refine size_of ?_) | (with_reducible refine Nat.le_succ_of_le ?_) | go_size))
        have hw4 : Below w.heap.size w w4 := Below.next hw3 hq4
        replace BF := BF.keep hq4
        try clear BF0 BF1 BFl
        obtain ⟨⟨BF0, BF1⟩, _⟩ := BF.cells2
        have BFl := BF.lt
        replace BW := BW.keep hq4
        try clear BW0 BW1 BW2 BW3 BWl
        obtain ⟨BW0, BW1, BW2, BW3⟩ := BW.cells4
        have BWl := BW.lt
        go_wp2_with fail
        refine (vennsame_Error _ _ _ (HET.out.keep (by (repeat' (first | (with_reducible exact Below.refl _ _) | (with_reducible assumption) | (with_reducible refine Below.next ?_ (by with_reducible assumption)) | (with_reducible refine Below.drew ?_) | (with_reducible refine Below.laid ?_ _) | (with_reducible refine Below.setCell ?_ ?_ _) | (with_reducible refine size_of ?_) | (with_reducible refine Nat.le_succ_of_le ?_) | go_size))))).mono ?_
        rintro e w5 ⟨rfl, hb5⟩
        have hq5 : Below w4.heap.size w4 w5 := by (repeat' (first | (with_reducible exact Below.refl _ _) | (with_reducible assumption) | (with_reducible refine Below.next ?_ (by with_reducible assumption)) | (with_reducible refine Below.drew ?_) | (with_reducible refine Below.laid ?_ _) | (with_reducible refine Below.setCell ?_ ?_ _) | (with_reducible refine size_of ?_) | (with_reducible refine Nat.le_succ_of_le ?_) | go_size))
        have hw5 : Below w.heap.size w w5 := Below.next hw4 hq5
        replace BF := BF.keep hq5
        try clear BF0 BF1 BFl
        obtain ⟨⟨BF0, BF1⟩, _⟩ := BF.cells2
        have BFl := BF.lt
        replace BW := BW.keep hq5
        try clear BW0 BW1 BW2 BW3 BWl
        obtain ⟨BW0, BW1, BW2, BW3⟩ := BW.cells4
        have BWl := BW.lt
        go_wp2_with fail
        refine (some_Each _ _ l c _ _ _ _ _ _ (HA.out.keep (by (repeat' (first | (with_reducible exact Below.refl _ _) | (with_reducible assumption) | (with_reducible refine Below.next ?_ (by with_reducible assumption)) | (with_reducible refine Below.drew ?_) | (with_reducible refine Below.laid ?_ _) | (with_reducible refine Below.setCell ?_ ?_ _) | (with_reducible refine size_of ?_) | (with_reducible refine Nat.le_succ_of_le ?_) | go_size)))) (HC.out.keep (by (repeat' (first | (with_reducible exact Below.refl _ _) | (with_reducible assumption) | (with_reducible refine Below.next ?_ (by with_reducible assumption)) | (with_reducible refine Below.drew ?_) | (with_reducible refine Below.laid ?_ _) | (with_reducible refine Below.setCell ?_ ?_ _) | (with_reducible refine size_of ?_) | (with_reducible refine Nat.le_succ_of_le ?_) | go_size)))) (HK.out.keep (by (repeat' (first | (with_reducible exact Below.refl _ _) | (with_reducible assumption) | (with_reducible refine Below.next ?_ (by with_reducible assumption)) | (with_reducible refine Below.drew ?_) | (with_reducible refine Below.laid ?_ _) | (with_reducible refine Below.setCell ?_ ?_ _) | (with_reducible refine size_of ?_) | (with_reducible refine Nat.le_succ_of_le ?_) | go_size))))).mono ?_
        rintro e w6 ⟨rfl, hb6⟩
        rw [HEA.out]
        have hq6 : Below w5.heap.size w5 w6 := by (repeat' (first | (with_reducible exact Below.refl _ _) | (with_reducible assumption) | (with_reducible refine Below.next ?_ (by with_reducible assumption)) | (with_reducible refine Below.drew ?_) | (with_reducible refine Below.laid ?_ _) | (with_reducible refine Below.setCell ?_ ?_ _) | (with_reducible refine size_of ?_) | (with_reducible refine Nat.le_succ_of_le ?_) | go_size))
        have hw6 : Below w.heap.size w w6 := Below.next hw5 hq6
        replace BF := BF.keep hq6
        try clear BF0 BF1 BFl
        obtain ⟨⟨BF0, BF1⟩, _⟩ := BF.cells2
        have BFl := BF.lt
        replace BW := BW.keep hq6
        try clear BW0 BW1 BW2 BW3 BWl
        obtain ⟨BW0, BW1, BW2, BW3⟩ := BW.cells4
        have BWl := BW.lt
        go_wp2_with fail
        refine (vennsame_Error _ _ _ (HET.out.keep (by (repeat' (first | (with_reducible exact Below.refl _ _) | (with_reducible assumption) | (with_reducible refine Below.next ?_ (by with_reducible assumption)) | (with_reducible refine Below.drew ?_) | (with_reducible refine Below.laid ?_ _) | (with_reducible refine Below.setCell ?_ ?_ _) | (with_reducible refine size_of ?_) | (with_reducible refine Nat.le_succ_of_le ?_) | go_size))))).mono ?_
        rintro e w7 ⟨rfl, hb7⟩
        have hq7 : Below w6.heap.size w6 w7 := by (repeat' (first | (with_reducible exact Below.refl _ _) | (with_reducible assumption) | (with_reducible refine Below.next ?_ (by with_reducible assumption)) | (with_reducible refine Below.drew ?_) | (with_reducible refine Below.laid ?_ _) | (with_reducible refine Below.setCell ?_ ?_ _) | (with_reducible refine size_of ?_) | (with_reducible refine Nat.le_succ_of_le ?_) | go_size))
        have hw7 : Below w.heap.size w w7 := Below.next hw6 hq7
        replace BF := BF.keep hq7
        try clear BF0 BF1 BFl
        obtain ⟨⟨BF0, BF1⟩, _⟩ := BF.cells2
        have BFl := BF.lt
        replace BW := BW.keep hq7
        try clear BW0 BW1 BW2 BW3 BWl
        obtain ⟨BW0, BW1, BW2, BW3⟩ := BW.cells4
        have BWl := BW.lt
        go_wp2_with fail
        refine (some_First _ _ l c _ _ _ _ _ _ (HA.out.keep (by (repeat' (first | (with_reducible exact Below.refl _ _) | (with_reducible assumption) | (with_reducible refine Below.next ?_ (by with_reducible assumption)) | (with_reducible refine Below.drew ?_) | (with_reducible refine Below.laid ?_ _) | (with_reducible refine Below.setCell ?_ ?_ _) | (with_reducible refine size_of ?_) | (with_reducible refine Nat.le_succ_of_le ?_) | go_size)))) (HC.out.keep (by (repeat' (first | (with_reducible exact Below.refl _ _) | (with_reducible assumption) | (with_reducible refine Below.next ?_ (by with_reducible assumption)) | (with_reducible refine Below.drew ?_) | (with_reducible refine Below.laid ?_ _) | (with_reducible refine Below.setCell ?_ ?_ _) | (with_reducible refine size_of ?_) | (with_reducible refine Nat.le_succ_of_le ?_) | go_size)))) (HK.out.keep (by (repeat' (first | (with_reducible exact Below.refl _ _) | (with_reducible assumption) | (with_reducible refine Below.next ?_ (by with_reducible assumption)) | (with_reducible refine Below.drew ?_) | (with_reducible refine Below.laid ?_ _) | (with_reducible refine Below.setCell ?_ ?_ _) | (with_reducible refine size_of ?_) | (with_reducible refine Nat.le_succ_of_le ?_) | go_size))))).mono ?_
        rintro e w8 ⟨rfl, hb8⟩
        rw [HF1.out]
        have hq8 : Below w7.heap.size w7 w8 := by (repeat' (first | (with_reducible exact Below.refl _ _) | (with_reducible assumption) | (with_reducible refine Below.next ?_ (by with_reducible assumption)) | (with_reducible refine Below.drew ?_) | (with_reducible refine Below.laid ?_ _) | (with_reducible refine Below.setCell ?_ ?_ _) | (with_reducible refine size_of ?_) | (with_reducible refine Nat.le_succ_of_le ?_) | go_size))
        have hw8 : Below w.heap.size w w8 := Below.next hw7 hq8
        replace BF := BF.keep hq8
        try clear BF0 BF1 BFl
        obtain ⟨⟨BF0, BF1⟩, _⟩ := BF.cells2
        have BFl := BF.lt
        replace BW := BW.keep hq8
        try clear BW0 BW1 BW2 BW3 BWl
        obtain ⟨BW0, BW1, BW2, BW3⟩ := BW.cells4
        have BWl := BW.lt
        go_wp2_with fail
        refine (vennsame_Error _ _ _ (HET.out.keep (by (repeat' (first | (with_reducible exact Below.refl _ _) | (with_reducible assumption) | (with_reducible refine Below.next ?_ (by with_reducible assumption)) | (with_reducible refine Below.drew ?_) | (with_reducible refine Below.laid ?_ _) | (with_reducible refine Below.setCell ?_ ?_ _) | (with_reducible refine size_of ?_) | (with_reducible refine Nat.le_succ_of_le ?_) | go_size))))).mono ?_
        rintro e w9 ⟨rfl, hb9⟩
        have hq9 : Below w8.heap.size w8 w9 := by (repeat' (first | (with_reducible exact Below.refl _ _) | (with_reducible assumption) | (with_reducible refine Below.next ?_ (by with_reducible assumption)) | (with_reducible refine Below.drew ?_) | (with_reducible refine Below.laid ?_ _) | (with_reducible refine Below.setCell ?_ ?_ _) | (with_reducible refine size_of ?_) | (with_reducible refine Nat.le_succ_of_le ?_) | go_size))
        have hw9 : Below w.heap.size w w9 := Below.next hw8 hq9
        go_wp2
        go_ret
        exact ⟨by simp, hw9⟩
      · have hge : 0 ≤ FT := by omega
        have hd : decide (0 ≤ FT) = true := by simp; omega
        rw [hd] at HIS
        rw [if_neg hneg] at HF1
        go_wp2_with fail
        refine (some_Is _ _ l c _ _ _ _ _ _ (HA.out.keep (by (repeat' (first | (with_reducible exact Below.refl _ _) | (with_reducible assumption) | (with_reducible refine Below.next ?_ (by with_reducible assumption)) | (with_reducible refine Below.drew ?_) | (with_reducible refine Below.laid ?_ _) | (with_reducible refine Below.setCell ?_ ?_ _) | (with_reducible refine size_of ?_) | (with_reducible refine Nat.le_succ_of_le ?_) | go_size)))) (HC.out.keep (by (repeat' (first | (with_reducible exact Below.refl _ _) | (with_reducible assumption) | (with_reducible refine Below.next ?_ (by with_reducible assumption)) | (with_reducible refine Below.drew ?_) | (with_reducible refine Below.laid ?_ _) | (with_reducible refine Below.setCell ?_ ?_ _) | (with_reducible refine size_of ?_) | (with_reducible refine Nat.le_succ_of_le ?_) | go_size)))) (HK.out.keep (by (repeat' (first | (with_reducible exact Below.refl _ _) | (with_reducible assumption) | (with_reducible refine Below.next ?_ (by with_reducible assumption)) | (with_reducible refine Below.drew ?_) | (with_reducible refine Below.laid ?_ _) | (with_reducible refine Below.setCell ?_ ?_ _) | (with_reducible refine size_of ?_) | (with_reducible refine Nat.le_succ_of_le ?_) | go_size))))).mono ?_
        rintro e w4 ⟨rfl, hb4⟩
        rw [HIS.out]
        have hq4 : Below w3.heap.size w3 w4 := by (repeat' (first | (with_reducible exact Below.refl _ _) | (with_reducible assumption) | (with_reducible refine Below.next ?_ (by with_reducible assumption)) | (with_reducible refine Below.drew ?_) | (with_reducible refine Below.laid ?_ _) | (with_reducible refine Below.setCell ?_ ?_ _) | (with_reducible refine size_of ?_) | (with_reducible refine Nat.le_succ_of_le ?_) | go_size))
        have hw4 : Below w.heap.size w w4 := Below.next hw3 hq4
        replace BF := BF.keep hq4
        try clear BF0 BF1 BFl
        obtain ⟨⟨BF0, BF1⟩, _⟩ := BF.cells2
        have BFl := BF.lt
        replace BW := BW.keep hq4
        try clear BW0 BW1 BW2 BW3 BWl
        obtain ⟨BW0, BW1, BW2, BW3⟩ := BW.cells4
        have BWl := BW.lt
        go_wp2_with fail
        refine (vennsame_Error _ _ _ (HET.out.keep (by (repeat' (first | (with_reducible exact Below.refl _ _) | (with_reducible assumption) | (with_reducible refine Below.next ?_ (by with_reducible assumption)) | (with_reducible refine Below.drew ?_) | (with_reducible refine Below.laid ?_ _) | (with_reducible refine Below.setCell ?_ ?_ _) | (with_reducible refine size_of ?_) | (with_reducible refine Nat.le_succ_of_le ?_) | go_size))))).mono ?_
        rintro e w5 ⟨rfl, hb5⟩
        have hq5 : Below w4.heap.size w4 w5 := by (repeat' (first | (with_reducible exact Below.refl _ _) | (with_reducible assumption) | (with_reducible refine Below.next ?_ (by with_reducible assumption)) | (with_reducible refine Below.drew ?_) | (with_reducible refine Below.laid ?_ _) | (with_reducible refine Below.setCell ?_ ?_ _) | (with_reducible refine size_of ?_) | (with_reducible refine Nat.le_succ_of_le ?_) | go_size))
        have hw5 : Below w.heap.size w w5 := Below.next hw4 hq5
        replace BF := BF.keep hq5
        try clear BF0 BF1 BFl
        obtain ⟨⟨BF0, BF1⟩, _⟩ := BF.cells2
        have BFl := BF.lt
        replace BW := BW.keep hq5
        try clear BW0 BW1 BW2 BW3 BWl
        obtain ⟨BW0, BW1, BW2, BW3⟩ := BW.cells4
        have BWl := BW.lt
        go_wp2_with fail
        refine (some_Each _ _ l c _ _ _ _ _ _ (HA.out.keep (by (repeat' (first | (with_reducible exact Below.refl _ _) | (with_reducible assumption) | (with_reducible refine Below.next ?_ (by with_reducible assumption)) | (with_reducible refine Below.drew ?_) | (with_reducible refine Below.laid ?_ _) | (with_reducible refine Below.setCell ?_ ?_ _) | (with_reducible refine size_of ?_) | (with_reducible refine Nat.le_succ_of_le ?_) | go_size)))) (HC.out.keep (by (repeat' (first | (with_reducible exact Below.refl _ _) | (with_reducible assumption) | (with_reducible refine Below.next ?_ (by with_reducible assumption)) | (with_reducible refine Below.drew ?_) | (with_reducible refine Below.laid ?_ _) | (with_reducible refine Below.setCell ?_ ?_ _) | (with_reducible refine size_of ?_) | (with_reducible refine Nat.le_succ_of_le ?_) | go_size)))) (HK.out.keep (by (repeat' (first | (with_reducible exact Below.refl _ _) | (with_reducible assumption) | (with_reducible refine Below.next ?_ (by with_reducible assumption)) | (with_reducible refine Below.drew ?_) | (with_reducible refine Below.laid ?_ _) | (with_reducible refine Below.setCell ?_ ?_ _) | (with_reducible refine size_of ?_) | (with_reducible refine Nat.le_succ_of_le ?_) | go_size))))).mono ?_
        rintro e w6 ⟨rfl, hb6⟩
        rw [HEA.out]
        have hq6 : Below w5.heap.size w5 w6 := by (repeat' (first | (with_reducible exact Below.refl _ _) | (with_reducible assumption) | (with_reducible refine Below.next ?_ (by with_reducible assumption)) | (with_reducible refine Below.drew ?_) | (with_reducible refine Below.laid ?_ _) | (with_reducible refine Below.setCell ?_ ?_ _) | (with_reducible refine size_of ?_) | (with_reducible refine Nat.le_succ_of_le ?_) | go_size))
        have hw6 : Below w.heap.size w w6 := Below.next hw5 hq6
        replace BF := BF.keep hq6
        try clear BF0 BF1 BFl
        obtain ⟨⟨BF0, BF1⟩, _⟩ := BF.cells2
        have BFl := BF.lt
        replace BW := BW.keep hq6
        try clear BW0 BW1 BW2 BW3 BWl
        obtain ⟨BW0, BW1, BW2, BW3⟩ := BW.cells4
        have BWl := BW.lt
        go_wp2_with fail
        refine (vennsame_Error _ _ _ (HET.out.keep (by (repeat' (first | (with_reducible exact Below.refl _ _) | (with_reducible assumption) | (with_reducible refine Below.next ?_ (by with_reducible assumption)) | (with_reducible refine Below.drew ?_) | (with_reducible refine Below.laid ?_ _) | (with_reducible refine Below.setCell ?_ ?_ _) | (with_reducible refine size_of ?_) | (with_reducible refine Nat.le_succ_of_le ?_) | go_size))))).mono ?_
        rintro e w7 ⟨rfl, hb7⟩
        have hq7 : Below w6.heap.size w6 w7 := by (repeat' (first | (with_reducible exact Below.refl _ _) | (with_reducible assumption) | (with_reducible refine Below.next ?_ (by with_reducible assumption)) | (with_reducible refine Below.drew ?_) | (with_reducible refine Below.laid ?_ _) | (with_reducible refine Below.setCell ?_ ?_ _) | (with_reducible refine size_of ?_) | (with_reducible refine Nat.le_succ_of_le ?_) | go_size))
        have hw7 : Below w.heap.size w w7 := Below.next hw6 hq7
        replace BF := BF.keep hq7
        try clear BF0 BF1 BFl
        obtain ⟨⟨BF0, BF1⟩, _⟩ := BF.cells2
        have BFl := BF.lt
        replace BW := BW.keep hq7
        try clear BW0 BW1 BW2 BW3 BWl
        obtain ⟨BW0, BW1, BW2, BW3⟩ := BW.cells4
        have BWl := BW.lt
        go_wp2_with fail
        refine (some_First _ _ l c _ _ _ _ _ _ (HA.out.keep (by (repeat' (first | (with_reducible exact Below.refl _ _) | (with_reducible assumption) | (with_reducible refine Below.next ?_ (by with_reducible assumption)) | (with_reducible refine Below.drew ?_) | (with_reducible refine Below.laid ?_ _) | (with_reducible refine Below.setCell ?_ ?_ _) | (with_reducible refine size_of ?_) | (with_reducible refine Nat.le_succ_of_le ?_) | go_size)))) (HC.out.keep (by (repeat' (first | (with_reducible exact Below.refl _ _) | (with_reducible assumption) | (with_reducible refine Below.next ?_ (by with_reducible assumption)) | (with_reducible refine Below.drew ?_) | (with_reducible refine Below.laid ?_ _) | (with_reducible refine Below.setCell ?_ ?_ _) | (with_reducible refine size_of ?_) | (with_reducible refine Nat.le_succ_of_le ?_) | go_size)))) (HK.out.keep (by (repeat' (first | (with_reducible exact Below.refl _ _) | (with_reducible assumption) | (with_reducible refine Below.next ?_ (by with_reducible assumption)) | (with_reducible refine Below.drew ?_) | (with_reducible refine Below.laid ?_ _) | (with_reducible refine Below.setCell ?_ ?_ _) | (with_reducible refine size_of ?_) | (with_reducible refine Nat.le_succ_of_le ?_) | go_size))))).mono ?_
        rintro e w8 ⟨rfl, hb8⟩
        rw [HF1.out]
        have hq8 : Below w7.heap.size w7 w8 := by (repeat' (first | (with_reducible exact Below.refl _ _) | (with_reducible assumption) | (with_reducible refine Below.next ?_ (by with_reducible assumption)) | (with_reducible refine Below.drew ?_) | (with_reducible refine Below.laid ?_ _) | (with_reducible refine Below.setCell ?_ ?_ _) | (with_reducible refine size_of ?_) | (with_reducible refine Nat.le_succ_of_le ?_) | go_size))
        have hw8 : Below w.heap.size w w8 := Below.next hw7 hq8
        replace BF := BF.keep hq8
        try clear BF0 BF1 BFl
        obtain ⟨⟨BF0, BF1⟩, _⟩ := BF.cells2
        have BFl := BF.lt
        replace BW := BW.keep hq8
        try clear BW0 BW1 BW2 BW3 BWl
        obtain ⟨BW0, BW1, BW2, BW3⟩ := BW.cells4
        have BWl := BW.lt
        go_wp2_with fail
        refine (vennsame_Error _ _ _ (HET.out.keep (by (repeat' (first | (with_reducible exact Below.refl _ _) | (with_reducible assumption) | (with_reducible refine Below.next ?_ (by with_reducible assumption)) | (with_reducible refine Below.drew ?_) | (with_reducible refine Below.laid ?_ _) | (with_reducible refine Below.setCell ?_ ?_ _) | (with_reducible refine size_of ?_) | (with_reducible refine Nat.le_succ_of_le ?_) | go_size))))).mono ?_
        rintro e w9 ⟨rfl, hb9⟩
        have hq9 : Below w8.heap.size w8 w9 := by (repeat' (first | (with_reducible exact Below.refl _ _) | (with_reducible assumption) | (with_reducible refine Below.next ?_ (by with_reducible assumption)) | (with_reducible refine Below.drew ?_) | (with_reducible refine Below.laid ?_ _) | (with_reducible refine Below.setCell ?_ ?_ _) | (with_reducible refine size_of ?_) | (with_reducible refine Nat.le_succ_of_le ?_) | go_size))
        have hw9 : Below w.heap.size w w9 := Below.next hw8 hq9
        go_wp2
        go_ret
        exact ⟨by simp, hw9⟩
    · have HVT := Lib.hid (HDT.out k (by omega))
      have HVF := Lib.hid (HDF.out k (by omega))
      have HP := Lib.hid (HSW.out k (by omega))
      obtain rfl : J = (k : Int) := by omega
      have hf0 := hBF.cell 0
      have hf1 := hBF.cell 1
      simp at hf0 hf1
      obtain ⟨c0, c1, c2, c3⟩ := hBX.cells4
      have fz := hBX.frozen 1
      have hlx := hBX.lt
      have hlo := hq2.size
      have hlo1 := hq1.size
      have hlo2 := hw2.size
      have hne1 : ¬ w.heap.size = w2.heap.size := by omega
      have hne2 : ¬ w.heap.size + 1 = w2.heap.size := by omega
      have hBX2 := hBX.set_ 1 (.int .i64 (k : Int))
      have hBF2 := hBF.far (p := ⟨w2.heap.size, 1, none⟩) (by simpa using hne1) (.int .i64 (k : Int))
      have hBW2 := hBW.far (p := ⟨w2.heap.size, 1, none⟩) (by simpa using hne2) (.int .i64 (k : Int))
      simp at hBX2
      have hk0 : (0 : Int) ≤ (k : Int) := by omega
      have hwj : IntKind.i64.wrap ((k : Int) - 1) = (k : Int) - 1 := IntWalk.i64_in _ (by omega)
      have HTR := Lib.hid (fun W h1 h2 => ref_True (.slice A l.length cA) (.slice C c.length cC) l c th (k : Int) b d W h1 h2 HX.out HP.out)
      generalize Venn.formTrue ⟨l, c⟩ ⟨th, (k : Int), b, d⟩ = TV at HTR HVT HVF
      cases TV
      all_goals
        go_wp2_with fail
        refine (HTR.out _ (HA.out.keep (by (repeat' (first | (with_reducible exact Below.refl _ _) | (with_reducible assumption) | (with_reducible refine Below.next ?_ (by with_reducible assumption)) | (with_reducible refine Below.drew ?_) | (with_reducible refine Below.laid ?_ _) | (with_reducible refine Below.setCell ?_ ?_ _) | (with_reducible refine size_of ?_) | (with_reducible refine Nat.le_succ_of_le ?_) | go_size)))) (HC.out.keep (by (repeat' (first | (with_reducible exact Below.refl _ _) | (with_reducible assumption) | (with_reducible refine Below.next ?_ (by with_reducible assumption)) | (with_reducible refine Below.drew ?_) | (with_reducible refine Below.laid ?_ _) | (with_reducible refine Below.setCell ?_ ?_ _) | (with_reducible refine size_of ?_) | (with_reducible refine Nat.le_succ_of_le ?_) | go_size))))).mono ?_
        rintro e wy ⟨rfl, hby⟩
        go_wp2
        go_roundw
        case rel => exact ⟨k, (k : Int) - 1, (k : Int), by omega, by omega, by go_num, by rw [HVT.out]; rfl, by rw [HVF.out]; rfl, by (repeat' (first | (with_reducible exact Below.refl _ _) | (with_reducible assumption) | (with_reducible refine Below.next ?_ (by with_reducible assumption)) | (with_reducible refine Below.drew ?_) | (with_reducible refine Below.laid ?_ _) | (with_reducible refine Below.setCell ?_ ?_ _) | (with_reducible refine size_of ?_) | (with_reducible refine Nat.le_succ_of_le ?_) | go_size)), hBF2.keep hby, hBW2.keep hby, hBX2.keep hby⟩
        case measure => simp [intOf]
set_option maxHeartbeats 8000000 in
set_option maxRecDepth 100000 in
theorem someTells_1 (sa sc : Value) (l : List Venn.Atom) (c : List Int) (th a b d : Int) (w : World) (ha : IsAtoms w sa l) (hc : IsInts w sc c) (hk : KindsOk w) (het : EtOk w) (hf : Venn.formChk ⟨l, c⟩ = 0) (hw : Venn.worldChk ⟨th, a, b, d⟩ = 0) :
    Calls Tryd.prog 4 #[.agg #[sa, sc], .int .i64 1, .agg #[.int .i64 th, .int .i64 a, .int .i64 b, .int .i64 d]] w (Keeps (.bool true) w) := by
  obtain ⟨A, cA, rfl⟩ := ha.slice
  obtain ⟨C, cC, rfl⟩ := hc.slice
  have HA := Lib.hid ha
  have HC := Lib.hid hc
  have HK := Lib.hid hk
  have HET := Lib.hid het
  clear ha hc hk het
  have hz : Venn.someChk ⟨l, c⟩ 1 ⟨th, a, b, d⟩ = 0 := by rw [Venn.someChk, if_pos hf, if_pos (by decide), hw]
  obtain ⟨pT, hpT⟩ : ∃ p : Nat → Bool, p = (fun s : Nat => Venn.formTrue ⟨l, c⟩ ((⟨th, a, b, d⟩ : Venn.World).put 1 (s : Int)) == true) := ⟨_, rfl⟩
  obtain ⟨pF, hpF⟩ : ∃ p : Nat → Bool, p = (fun s : Nat => Venn.formTrue ⟨l, c⟩ ((⟨th, a, b, d⟩ : Venn.World).put 1 (s : Int)) == false) := ⟨_, rfl⟩
  obtain ⟨N, hN⟩ : ∃ N : Nat, N = 2 ^ th.toNat := ⟨_, rfl⟩
  obtain ⟨FT, hFT⟩ : ∃ F, F = Venn.firstFrom pT N 0 := ⟨_, rfl⟩
  obtain ⟨EB, hEB⟩ : ∃ F : Bool, F = decide (Venn.firstFrom pF N 0 < 0) := ⟨_, rfl⟩
  have h1 : Venn.firstSet ⟨l, c⟩ 1 ⟨th, a, b, d⟩ true = FT := by rw [hFT, hN, hpT]; rfl
  have h2 : decide (Venn.firstSet ⟨l, c⟩ 1 ⟨th, a, b, d⟩ false < 0) = EB := by rw [hEB, hN, hpF]; rfl
  have HIS := Lib.hid (show Value.tuple #[.bool (someIsV l c 1 th a b d), errV (Venn.someChk ⟨l, c⟩ 1 ⟨th, a, b, d⟩)] = .tuple #[.bool (decide (0 ≤ FT)), errV 0] by rw [someIsV, if_pos hz, hz, h1])
  have HEA := Lib.hid (show Value.tuple #[.bool (someEachV l c 1 th a b d), errV (Venn.someChk ⟨l, c⟩ 1 ⟨th, a, b, d⟩)] = .tuple #[.bool EB, errV 0] by rw [someEachV, if_pos hz, hz, h2])
  have HF1 := Lib.hid (show firstVv l c 1 th a b d = if FT < 0 then .tuple #[.int .i64 0, errV 5] else .tuple #[.int .i64 FT, errV 0] by
    by_cases hn : FT < 0
    · have g2 : Venn.someFirstChk ⟨l, c⟩ 1 ⟨th, a, b, d⟩ = 5 := by rw [Venn.someFirstChk, if_pos hz, h1, if_pos hn]
      rw [firstVv, Venn.someFirstV, if_neg (by rw [g2]; decide), g2, if_pos hn]
    · have g2 : Venn.someFirstChk ⟨l, c⟩ 1 ⟨th, a, b, d⟩ = 0 := by rw [Venn.someFirstChk, if_pos hz, h1, if_neg hn]
      rw [firstVv, Venn.someFirstV, if_pos g2, g2, h1, if_neg hn])
  obtain ⟨hth, hwa, hwb, hwc⟩ := Venn.worldChk_iff.1 hw
  obtain ⟨hs0, hs63, hs2⟩ := allS_63 hth
  simp only at hth hs0 hs63 hs2 hwa hwb hwc
  rw [← hN] at hs2
  have hN64 : N ≤ 64 := by omega
  have HSW := Lib.hid (show ∀ k : Nat, k < N → Venn.worldChk ⟨th, a, (k : Int), d⟩ = 0 from fun k hk => Venn.worldChk_iff.2 ⟨hth, hwa, setChk_le hth (by omega), hwc⟩)
  have HDT := Lib.hid (show ∀ k : Nat, k < N → Venn.firstFrom pT (N - k) k = if Venn.formTrue ⟨l, c⟩ ⟨th, a, (k : Int), d⟩ = true then (k : Int) else Venn.firstFrom pT (N - (k + 1)) (k + 1) from fun k hk => by
    rw [Venn.firstFrom_down hk, hpT]
    have : (Venn.formTrue ⟨l, c⟩ ((⟨th, a, b, d⟩ : Venn.World).put 1 (k : Int)) == true) = Venn.formTrue ⟨l, c⟩ ⟨th, a, (k : Int), d⟩ := by
      rw [show (⟨th, a, b, d⟩ : Venn.World).put 1 (k : Int) = ⟨th, a, (k : Int), d⟩ from rfl]; simp
    simp only [this])
  have HDF := Lib.hid (show ∀ k : Nat, k < N → decide (Venn.firstFrom pF (N - k) k < 0) = if Venn.formTrue ⟨l, c⟩ ⟨th, a, (k : Int), d⟩ = true then decide (Venn.firstFrom pF (N - (k + 1)) (k + 1) < 0) else false from fun k hk => by
    rw [Venn.firstFrom_down hk, hpF]
    have : (Venn.formTrue ⟨l, c⟩ ((⟨th, a, b, d⟩ : Venn.World).put 1 (k : Int)) == false) = !Venn.formTrue ⟨l, c⟩ ⟨th, a, (k : Int), d⟩ := by
      rw [show (⟨th, a, b, d⟩ : Venn.World).put 1 (k : Int) = ⟨th, a, (k : Int), d⟩ from rfl]; cases Venn.formTrue ⟨l, c⟩ ⟨th, a, (k : Int), d⟩ <;> rfl
    simp only [this]
    cases Venn.formTrue ⟨l, c⟩ ⟨th, a, (k : Int), d⟩
    · simp
    · simp)
  have HX := Lib.hid hf
  have HY := Lib.hid hw
  have HFT := Lib.hid hFT
  have HEB := Lib.hid hEB
  have hth6 : th ≤ 61 := by simp [Venn.things] at hth; omega
  have HPW := Lib.hid (fun W => ref_Power th W hth6)
  rw [← hN] at HPW
  have hwr : IntKind.i64.wrap ((N : Int) - 1) = (N : Int) - 1 := IntWalk.i64_in _ (by omega)
  clear hf hw hz hpT hpF hN hFT hEB h1 h2 hth hwa hwb hwc hs0 hs2 hth6
  go_enter Tryd.func4, Tryd.ntmps4
  go_wp2_with fail
  refine (ref_Form _ _ l c _ (HA.out.keep (by (repeat' (first | (with_reducible exact Below.refl _ _) | (with_reducible assumption) | (with_reducible refine Below.next ?_ (by with_reducible assumption)) | (with_reducible refine Below.drew ?_) | (with_reducible refine Below.laid ?_ _) | (with_reducible refine Below.setCell ?_ ?_ _) | (with_reducible refine size_of ?_) | (with_reducible refine Nat.le_succ_of_le ?_) | go_size)))) (HC.out.keep (by (repeat' (first | (with_reducible exact Below.refl _ _) | (with_reducible assumption) | (with_reducible refine Below.next ?_ (by with_reducible assumption)) | (with_reducible refine Below.drew ?_) | (with_reducible refine Below.laid ?_ _) | (with_reducible refine Below.setCell ?_ ?_ _) | (with_reducible refine size_of ?_) | (with_reducible refine Nat.le_succ_of_le ?_) | go_size))))).mono ?_
  rintro e w1 ⟨rfl, hb1⟩
  rw [HX.out]
  have hq1 : Below w.heap.size w w1 := by (repeat' (first | (with_reducible exact Below.refl _ _) | (with_reducible assumption) | (with_reducible refine Below.next ?_ (by with_reducible assumption)) | (with_reducible refine Below.drew ?_) | (with_reducible refine Below.laid ?_ _) | (with_reducible refine Below.setCell ?_ ?_ _) | (with_reducible refine size_of ?_) | (with_reducible refine Nat.le_succ_of_le ?_) | go_size))
  have hw1 : Below w.heap.size w w1 := hq1
  have BF : Blk w1 w.heap.size 25 #[.slice A l.length cA, .slice C c.length cC] := (boxes24 hb1).1
  have BW : Blk w1 (w.heap.size + 1) 28 #[.int .i64 th, .int .i64 a, .int .i64 b, .int .i64 d] := (boxes24 hb1).2
  obtain ⟨⟨BF0, BF1⟩, _⟩ := BF.cells2
  have BFl := BF.lt
  obtain ⟨BW0, BW1, BW2, BW3⟩ := BW.cells4
  have BWl := BW.lt
  go_wp2_with fail
  refine (ref_World _ _ _ _ _).mono ?_
  rintro e w2 ⟨rfl, hb2⟩
  rw [HY.out]
  have hq2 : Below w1.heap.size w1 w2 := by (repeat' (first | (with_reducible exact Below.refl _ _) | (with_reducible assumption) | (with_reducible refine Below.next ?_ (by with_reducible assumption)) | (with_reducible refine Below.drew ?_) | (with_reducible refine Below.laid ?_ _) | (with_reducible refine Below.setCell ?_ ?_ _) | (with_reducible refine size_of ?_) | (with_reducible refine Nat.le_succ_of_le ?_) | go_size))
  have hw2 : Below w.heap.size w w2 := Below.next hw1 hq2
  replace BF := BF.keep hq2
  try clear BF0 BF1 BFl
  obtain ⟨⟨BF0, BF1⟩, _⟩ := BF.cells2
  have BFl := BF.lt
  replace BW := BW.keep hq2
  try clear BW0 BW1 BW2 BW3 BWl
  obtain ⟨BW0, BW1, BW2, BW3⟩ := BW.cells4
  have BWl := BW.lt
  have hlt2 := BW.lt
  go_wp2_with (go_at_call 19; refine (HPW.out _).mono ?_; rintro e w' ⟨rfl, rfl⟩)
  go_loopw [8, 9, 11] (fun fi ea s wr => ∃ (k : Nat) (J X : Int), k ≤ N ∧ J + 1 = (k : Int) ∧ s = .int .i64 J ∧ fi = .int .i64 (Venn.firstFrom pT (N - k) k) ∧ ea = .bool (decide (Venn.firstFrom pF (N - k) k < 0)) ∧ Below w.heap.size w wr ∧ Blk wr w.heap.size 25 #[.slice A l.length cA, .slice C c.length cC] ∧ Blk wr (w.heap.size + 1) 28 #[.int .i64 th, .int .i64 a, .int .i64 b, .int .i64 d] ∧ Blk wr w2.heap.size 28 #[.int .i64 th, .int .i64 a, .int .i64 X, .int .i64 d])
    (fun _ _ s _ => (intOf s + 1).toNat)
  case atStart => exact ⟨N, (N : Int) - 1, _, Nat.le_refl _, by omega, rfl, by rw [Nat.sub_self]; rfl, by rw [Nat.sub_self]; rfl, by (repeat' (first | (with_reducible exact Below.refl _ _) | (with_reducible assumption) | (with_reducible refine Below.next ?_ (by with_reducible assumption)) | (with_reducible refine Below.drew ?_) | (with_reducible refine Below.laid ?_ _) | (with_reducible refine Below.setCell ?_ ?_ _) | (with_reducible refine size_of ?_) | (with_reducible refine Nat.le_succ_of_le ?_) | go_size)), BF.alloc _, BW.alloc _, Blk.new _ _ _⟩
  case round =>
    clear BF0 BF1 BFl BW0 BW1 BW2 BW3 BWl BF BW
    obtain ⟨k, J, X, hk, hJ, rfl, rfl, rfl, hb, hBF, hBW, hBX⟩ := hrel
    obtain ⟨wo, rfl⟩ : ∃ wo : World, wo = wr := ⟨_, rfl⟩
    rcases k with _ | k
    · have hJ0 : ¬ 0 ≤ J := by omega
      rw [Nat.sub_zero, ← HFT.out, ← HEB.out]
      have BF := hBF
      have BW := hBW
      have hw3 := hb
      obtain ⟨w3, rfl⟩ : ∃ w3 : World, w3 = wo := ⟨_, rfl⟩
      obtain ⟨⟨BF0, BF1⟩, _⟩ := BF.cells2
      have BFl := BF.lt
      obtain ⟨BW0, BW1, BW2, BW3⟩ := BW.cells4
      have BWl := BW.lt
      by_cases hneg : FT < 0
      · have hd : decide (0 ≤ FT) = false := by simp; omega
        rw [hd] at HIS
        rw [if_pos hneg] at HF1
        have hge : ¬ 0 ≤ FT := by omega
        go_wp2_with fail
        refine (some_Is _ _ l c _ _ _ _ _ _ (HA.out.keep (by (repeat' (first | (with_reducible exact Below.refl _ _) | (with_reducible assumption) | (with_reducible refine Below.next ?_ (by with_reducible assumption)) | (with_reducible refine Below.drew ?_) | (with_reducible refine Below.laid ?_ _) | (with_reducible refine Below.setCell ?_ ?_ _) | (with_reducible refine size_of ?_) | (with_reducible refine Nat.le_succ_of_le ?_) | go_size)))) (HC.out.keep (by (repeat' (first | (with_reducible exact Below.refl _ _) | (with_reducible assumption) | (with_reducible refine Below.next ?_ (by with_reducible assumption)) | (with_reducible refine Below.drew ?_) | (with_reducible refine Below.laid ?_ _) | (with_reducible refine Below.setCell ?_ ?_ _) | (with_reducible refine size_of ?_) | (with_reducible refine Nat.le_succ_of_le ?_) | go_size)))) (HK.out.keep (by (repeat' (first | (with_reducible exact Below.refl _ _) | (with_reducible assumption) | (with_reducible refine Below.next ?_ (by with_reducible assumption)) | (with_reducible refine Below.drew ?_) | (with_reducible refine Below.laid ?_ _) | (with_reducible refine Below.setCell ?_ ?_ _) | (with_reducible refine size_of ?_) | (with_reducible refine Nat.le_succ_of_le ?_) | go_size))))).mono ?_
        rintro e w4 ⟨rfl, hb4⟩
        rw [HIS.out]
        have hq4 : Below w3.heap.size w3 w4 := by (repeat' (first | (with_reducible exact Below.refl _ _) | (with_reducible assumption) | (with_reducible refine Below.next ?_ (by with_reducible assumption)) | (with_reducible refine Below.drew ?_) | (with_reducible refine Below.laid ?_ _) | (with_reducible refine Below.setCell ?_ ?_ _) | (with_reducible refine size_of ?_) | (with_reducible refine Nat.le_succ_of_le ?_) | go_size))
        have hw4 : Below w.heap.size w w4 := Below.next hw3 hq4
        replace BF := BF.keep hq4
        try clear BF0 BF1 BFl
        obtain ⟨⟨BF0, BF1⟩, _⟩ := BF.cells2
        have BFl := BF.lt
        replace BW := BW.keep hq4
        try clear BW0 BW1 BW2 BW3 BWl
        obtain ⟨BW0, BW1, BW2, BW3⟩ := BW.cells4
        have BWl := BW.lt
        go_wp2_with fail
        refine (vennsame_Error _ _ _ (HET.out.keep (by (repeat' (first | (with_reducible exact Below.refl _ _) | (with_reducible assumption) | (with_reducible refine Below.next ?_ (by with_reducible assumption)) | (with_reducible refine Below.drew ?_) | (with_reducible refine Below.laid ?_ _) | (with_reducible refine Below.setCell ?_ ?_ _) | (with_reducible refine size_of ?_) | (with_reducible refine Nat.le_succ_of_le ?_) | go_size))))).mono ?_
        rintro e w5 ⟨rfl, hb5⟩
        have hq5 : Below w4.heap.size w4 w5 := by (repeat' (first | (with_reducible exact Below.refl _ _) | (with_reducible assumption) | (with_reducible refine Below.next ?_ (by with_reducible assumption)) | (with_reducible refine Below.drew ?_) | (with_reducible refine Below.laid ?_ _) | (with_reducible refine Below.setCell ?_ ?_ _) | (with_reducible refine size_of ?_) | (with_reducible refine Nat.le_succ_of_le ?_) | go_size))
        have hw5 : Below w.heap.size w w5 := Below.next hw4 hq5
        replace BF := BF.keep hq5
        try clear BF0 BF1 BFl
        obtain ⟨⟨BF0, BF1⟩, _⟩ := BF.cells2
        have BFl := BF.lt
        replace BW := BW.keep hq5
        try clear BW0 BW1 BW2 BW3 BWl
        obtain ⟨BW0, BW1, BW2, BW3⟩ := BW.cells4
        have BWl := BW.lt
        go_wp2_with fail
        refine (some_Each _ _ l c _ _ _ _ _ _ (HA.out.keep (by (repeat' (first | (with_reducible exact Below.refl _ _) | (with_reducible assumption) | (with_reducible refine Below.next ?_ (by with_reducible assumption)) | (with_reducible refine Below.drew ?_) | (with_reducible refine Below.laid ?_ _) | (with_reducible refine Below.setCell ?_ ?_ _) | (with_reducible refine size_of ?_) | (with_reducible refine Nat.le_succ_of_le ?_) | go_size)))) (HC.out.keep (by (repeat' (first | (with_reducible exact Below.refl _ _) | (with_reducible assumption) | (with_reducible refine Below.next ?_ (by with_reducible assumption)) | (with_reducible refine Below.drew ?_) | (with_reducible refine Below.laid ?_ _) | (with_reducible refine Below.setCell ?_ ?_ _) | (with_reducible refine size_of ?_) | (with_reducible refine Nat.le_succ_of_le ?_) | go_size)))) (HK.out.keep (by (repeat' (first | (with_reducible exact Below.refl _ _) | (with_reducible assumption) | (with_reducible refine Below.next ?_ (by with_reducible assumption)) | (with_reducible refine Below.drew ?_) | (with_reducible refine Below.laid ?_ _) | (with_reducible refine Below.setCell ?_ ?_ _) | (with_reducible refine size_of ?_) | (with_reducible refine Nat.le_succ_of_le ?_) | go_size))))).mono ?_
        rintro e w6 ⟨rfl, hb6⟩
        rw [HEA.out]
        have hq6 : Below w5.heap.size w5 w6 := by (repeat' (first | (with_reducible exact Below.refl _ _) | (with_reducible assumption) | (with_reducible refine Below.next ?_ (by with_reducible assumption)) | (with_reducible refine Below.drew ?_) | (with_reducible refine Below.laid ?_ _) | (with_reducible refine Below.setCell ?_ ?_ _) | (with_reducible refine size_of ?_) | (with_reducible refine Nat.le_succ_of_le ?_) | go_size))
        have hw6 : Below w.heap.size w w6 := Below.next hw5 hq6
        replace BF := BF.keep hq6
        try clear BF0 BF1 BFl
        obtain ⟨⟨BF0, BF1⟩, _⟩ := BF.cells2
        have BFl := BF.lt
        replace BW := BW.keep hq6
        try clear BW0 BW1 BW2 BW3 BWl
        obtain ⟨BW0, BW1, BW2, BW3⟩ := BW.cells4
        have BWl := BW.lt
        go_wp2_with fail
        refine (vennsame_Error _ _ _ (HET.out.keep (by (repeat' (first | (with_reducible exact Below.refl _ _) | (with_reducible assumption) | (with_reducible refine Below.next ?_ (by with_reducible assumption)) | (with_reducible refine Below.drew ?_) | (with_reducible refine Below.laid ?_ _) | (with_reducible refine Below.setCell ?_ ?_ _) | (with_reducible refine size_of ?_) | (with_reducible refine Nat.le_succ_of_le ?_) | go_size))))).mono ?_
        rintro e w7 ⟨rfl, hb7⟩
        have hq7 : Below w6.heap.size w6 w7 := by (repeat' (first | (with_reducible exact Below.refl _ _) | (with_reducible assumption) | (with_reducible refine Below.next ?_ (by with_reducible assumption)) | (with_reducible refine Below.drew ?_) | (with_reducible refine Below.laid ?_ _) | (with_reducible refine Below.setCell ?_ ?_ _) | (with_reducible refine size_of ?_) | (with_reducible refine Nat.le_succ_of_le ?_) | go_size))
        have hw7 : Below w.heap.size w w7 := Below.next hw6 hq7
        replace BF := BF.keep hq7
        try clear BF0 BF1 BFl
        obtain ⟨⟨BF0, BF1⟩, _⟩ := BF.cells2
        have BFl := BF.lt
        replace BW := BW.keep hq7
        try clear BW0 BW1 BW2 BW3 BWl
        obtain ⟨BW0, BW1, BW2, BW3⟩ := BW.cells4
        have BWl := BW.lt
        go_wp2_with fail
        refine (some_First _ _ l c _ _ _ _ _ _ (HA.out.keep (by (repeat' (first | (with_reducible exact Below.refl _ _) | (with_reducible assumption) | (with_reducible refine Below.next ?_ (by with_reducible assumption)) | (with_reducible refine Below.drew ?_) | (with_reducible refine Below.laid ?_ _) | (with_reducible refine Below.setCell ?_ ?_ _) | (with_reducible refine size_of ?_) | (with_reducible refine Nat.le_succ_of_le ?_) | go_size)))) (HC.out.keep (by (repeat' (first | (with_reducible exact Below.refl _ _) | (with_reducible assumption) | (with_reducible refine Below.next ?_ (by with_reducible assumption)) | (with_reducible refine Below.drew ?_) | (with_reducible refine Below.laid ?_ _) | (with_reducible refine Below.setCell ?_ ?_ _) | (with_reducible refine size_of ?_) | (with_reducible refine Nat.le_succ_of_le ?_) | go_size)))) (HK.out.keep (by (repeat' (first | (with_reducible exact Below.refl _ _) | (with_reducible assumption) | (with_reducible refine Below.next ?_ (by with_reducible assumption)) | (with_reducible refine Below.drew ?_) | (with_reducible refine Below.laid ?_ _) | (with_reducible refine Below.setCell ?_ ?_ _) | (with_reducible refine size_of ?_) | (with_reducible refine Nat.le_succ_of_le ?_) | go_size))))).mono ?_
        rintro e w8 ⟨rfl, hb8⟩
        rw [HF1.out]
        have hq8 : Below w7.heap.size w7 w8 := by (repeat' (first | (with_reducible exact Below.refl _ _) | (with_reducible assumption) | (with_reducible refine Below.next ?_ (by with_reducible assumption)) | (with_reducible refine Below.drew ?_) | (with_reducible refine Below.laid ?_ _) | (with_reducible refine Below.setCell ?_ ?_ _) | (with_reducible refine size_of ?_) | (with_reducible refine Nat.le_succ_of_le ?_) | go_size))
        have hw8 : Below w.heap.size w w8 := Below.next hw7 hq8
        replace BF := BF.keep hq8
        try clear BF0 BF1 BFl
        obtain ⟨⟨BF0, BF1⟩, _⟩ := BF.cells2
        have BFl := BF.lt
        replace BW := BW.keep hq8
        try clear BW0 BW1 BW2 BW3 BWl
        obtain ⟨BW0, BW1, BW2, BW3⟩ := BW.cells4
        have BWl := BW.lt
        go_wp2_with fail
        refine (vennsame_Error _ _ _ (HET.out.keep (by (repeat' (first | (with_reducible exact Below.refl _ _) | (with_reducible assumption) | (with_reducible refine Below.next ?_ (by with_reducible assumption)) | (with_reducible refine Below.drew ?_) | (with_reducible refine Below.laid ?_ _) | (with_reducible refine Below.setCell ?_ ?_ _) | (with_reducible refine size_of ?_) | (with_reducible refine Nat.le_succ_of_le ?_) | go_size))))).mono ?_
        rintro e w9 ⟨rfl, hb9⟩
        have hq9 : Below w8.heap.size w8 w9 := by (repeat' (first | (with_reducible exact Below.refl _ _) | (with_reducible assumption) | (with_reducible refine Below.next ?_ (by with_reducible assumption)) | (with_reducible refine Below.drew ?_) | (with_reducible refine Below.laid ?_ _) | (with_reducible refine Below.setCell ?_ ?_ _) | (with_reducible refine size_of ?_) | (with_reducible refine Nat.le_succ_of_le ?_) | go_size))
        have hw9 : Below w.heap.size w w9 := Below.next hw8 hq9
        go_wp2
        go_ret
        exact ⟨by simp, hw9⟩
      · have hge : 0 ≤ FT := by omega
        have hd : decide (0 ≤ FT) = true := by simp; omega
        rw [hd] at HIS
        rw [if_neg hneg] at HF1
        go_wp2_with fail
        refine (some_Is _ _ l c _ _ _ _ _ _ (HA.out.keep (by (repeat' (first | (with_reducible exact Below.refl _ _) | (with_reducible assumption) | (with_reducible refine Below.next ?_ (by with_reducible assumption)) | (with_reducible refine Below.drew ?_) | (with_reducible refine Below.laid ?_ _) | (with_reducible refine Below.setCell ?_ ?_ _) | (with_reducible refine size_of ?_) | (with_reducible refine Nat.le_succ_of_le ?_) | go_size)))) (HC.out.keep (by (repeat' (first | (with_reducible exact Below.refl _ _) | (with_reducible assumption) | (with_reducible refine Below.next ?_ (by with_reducible assumption)) | (with_reducible refine Below.drew ?_) | (with_reducible refine Below.laid ?_ _) | (with_reducible refine Below.setCell ?_ ?_ _) | (with_reducible refine size_of ?_) | (with_reducible refine Nat.le_succ_of_le ?_) | go_size)))) (HK.out.keep (by (repeat' (first | (with_reducible exact Below.refl _ _) | (with_reducible assumption) | (with_reducible refine Below.next ?_ (by with_reducible assumption)) | (with_reducible refine Below.drew ?_) | (with_reducible refine Below.laid ?_ _) | (with_reducible refine Below.setCell ?_ ?_ _) | (with_reducible refine size_of ?_) | (with_reducible refine Nat.le_succ_of_le ?_) | go_size))))).mono ?_
        rintro e w4 ⟨rfl, hb4⟩
        rw [HIS.out]
        have hq4 : Below w3.heap.size w3 w4 := by (repeat' (first | (with_reducible exact Below.refl _ _) | (with_reducible assumption) | (with_reducible refine Below.next ?_ (by with_reducible assumption)) | (with_reducible refine Below.drew ?_) | (with_reducible refine Below.laid ?_ _) | (with_reducible refine Below.setCell ?_ ?_ _) | (with_reducible refine size_of ?_) | (with_reducible refine Nat.le_succ_of_le ?_) | go_size))
        have hw4 : Below w.heap.size w w4 := Below.next hw3 hq4
        replace BF := BF.keep hq4
        try clear BF0 BF1 BFl
        obtain ⟨⟨BF0, BF1⟩, _⟩ := BF.cells2
        have BFl := BF.lt
        replace BW := BW.keep hq4
        try clear BW0 BW1 BW2 BW3 BWl
        obtain ⟨BW0, BW1, BW2, BW3⟩ := BW.cells4
        have BWl := BW.lt
        go_wp2_with fail
        refine (vennsame_Error _ _ _ (HET.out.keep (by (repeat' (first | (with_reducible exact Below.refl _ _) | (with_reducible assumption) | (with_reducible refine Below.next ?_ (by with_reducible assumption)) | (with_reducible refine Below.drew ?_) | (with_reducible refine Below.laid ?_ _) | (with_reducible refine Below.setCell ?_ ?_ _) | (with_reducible refine size_of ?_) | (with_reducible refine Nat.le_succ_of_le ?_) | go_size))))).mono ?_
        rintro e w5 ⟨rfl, hb5⟩
        have hq5 : Below w4.heap.size w4 w5 := by (repeat' (first | (with_reducible exact Below.refl _ _) | (with_reducible assumption) | (with_reducible refine Below.next ?_ (by with_reducible assumption)) | (with_reducible refine Below.drew ?_) | (with_reducible refine Below.laid ?_ _) | (with_reducible refine Below.setCell ?_ ?_ _) | (with_reducible refine size_of ?_) | (with_reducible refine Nat.le_succ_of_le ?_) | go_size))
        have hw5 : Below w.heap.size w w5 := Below.next hw4 hq5
        replace BF := BF.keep hq5
        try clear BF0 BF1 BFl
        obtain ⟨⟨BF0, BF1⟩, _⟩ := BF.cells2
        have BFl := BF.lt
        replace BW := BW.keep hq5
        try clear BW0 BW1 BW2 BW3 BWl
        obtain ⟨BW0, BW1, BW2, BW3⟩ := BW.cells4
        have BWl := BW.lt
        go_wp2_with fail
        refine (some_Each _ _ l c _ _ _ _ _ _ (HA.out.keep (by (repeat' (first | (with_reducible exact Below.refl _ _) | (with_reducible assumption) | (with_reducible refine Below.next ?_ (by with_reducible assumption)) | (with_reducible refine Below.drew ?_) | (with_reducible refine Below.laid ?_ _) | (with_reducible refine Below.setCell ?_ ?_ _) | (with_reducible refine size_of ?_) | (with_reducible refine Nat.le_succ_of_le ?_) | go_size)))) (HC.out.keep (by (repeat' (first | (with_reducible exact Below.refl _ _) | (with_reducible assumption) | (with_reducible refine Below.next ?_ (by with_reducible assumption)) | (with_reducible refine Below.drew ?_) | (with_reducible refine Below.laid ?_ _) | (with_reducible refine Below.setCell ?_ ?_ _) | (with_reducible refine size_of ?_) | (with_reducible refine Nat.le_succ_of_le ?_) | go_size)))) (HK.out.keep (by (repeat' (first | (with_reducible exact Below.refl _ _) | (with_reducible assumption) | (with_reducible refine Below.next ?_ (by with_reducible assumption)) | (with_reducible refine Below.drew ?_) | (with_reducible refine Below.laid ?_ _) | (with_reducible refine Below.setCell ?_ ?_ _) | (with_reducible refine size_of ?_) | (with_reducible refine Nat.le_succ_of_le ?_) | go_size))))).mono ?_
        rintro e w6 ⟨rfl, hb6⟩
        rw [HEA.out]
        have hq6 : Below w5.heap.size w5 w6 := by (repeat' (first | (with_reducible exact Below.refl _ _) | (with_reducible assumption) | (with_reducible refine Below.next ?_ (by with_reducible assumption)) | (with_reducible refine Below.drew ?_) | (with_reducible refine Below.laid ?_ _) | (with_reducible refine Below.setCell ?_ ?_ _) | (with_reducible refine size_of ?_) | (with_reducible refine Nat.le_succ_of_le ?_) | go_size))
        have hw6 : Below w.heap.size w w6 := Below.next hw5 hq6
        replace BF := BF.keep hq6
        try clear BF0 BF1 BFl
        obtain ⟨⟨BF0, BF1⟩, _⟩ := BF.cells2
        have BFl := BF.lt
        replace BW := BW.keep hq6
        try clear BW0 BW1 BW2 BW3 BWl
        obtain ⟨BW0, BW1, BW2, BW3⟩ := BW.cells4
        have BWl := BW.lt
        go_wp2_with fail
        refine (vennsame_Error _ _ _ (HET.out.keep (by (repeat' (first | (with_reducible exact Below.refl _ _) | (with_reducible assumption) | (with_reducible refine Below.next ?_ (by with_reducible assumption)) | (with_reducible refine Below.drew ?_) | (with_reducible refine Below.laid ?_ _) | (with_reducible refine Below.setCell ?_ ?_ _) | (with_reducible refine size_of ?_) | (with_reducible refine Nat.le_succ_of_le ?_) | go_size))))).mono ?_
        rintro e w7 ⟨rfl, hb7⟩
        have hq7 : Below w6.heap.size w6 w7 := by (repeat' (first | (with_reducible exact Below.refl _ _) | (with_reducible assumption) | (with_reducible refine Below.next ?_ (by with_reducible assumption)) | (with_reducible refine Below.drew ?_) | (with_reducible refine Below.laid ?_ _) | (with_reducible refine Below.setCell ?_ ?_ _) | (with_reducible refine size_of ?_) | (with_reducible refine Nat.le_succ_of_le ?_) | go_size))
        have hw7 : Below w.heap.size w w7 := Below.next hw6 hq7
        replace BF := BF.keep hq7
        try clear BF0 BF1 BFl
        obtain ⟨⟨BF0, BF1⟩, _⟩ := BF.cells2
        have BFl := BF.lt
        replace BW := BW.keep hq7
        try clear BW0 BW1 BW2 BW3 BWl
        obtain ⟨BW0, BW1, BW2, BW3⟩ := BW.cells4
        have BWl := BW.lt
        go_wp2_with fail
        refine (some_First _ _ l c _ _ _ _ _ _ (HA.out.keep (by (repeat' (first | (with_reducible exact Below.refl _ _) | (with_reducible assumption) | (with_reducible refine Below.next ?_ (by with_reducible assumption)) | (with_reducible refine Below.drew ?_) | (with_reducible refine Below.laid ?_ _) | (with_reducible refine Below.setCell ?_ ?_ _) | (with_reducible refine size_of ?_) | (with_reducible refine Nat.le_succ_of_le ?_) | go_size)))) (HC.out.keep (by (repeat' (first | (with_reducible exact Below.refl _ _) | (with_reducible assumption) | (with_reducible refine Below.next ?_ (by with_reducible assumption)) | (with_reducible refine Below.drew ?_) | (with_reducible refine Below.laid ?_ _) | (with_reducible refine Below.setCell ?_ ?_ _) | (with_reducible refine size_of ?_) | (with_reducible refine Nat.le_succ_of_le ?_) | go_size)))) (HK.out.keep (by (repeat' (first | (with_reducible exact Below.refl _ _) | (with_reducible assumption) | (with_reducible refine Below.next ?_ (by with_reducible assumption)) | (with_reducible refine Below.drew ?_) | (with_reducible refine Below.laid ?_ _) | (with_reducible refine Below.setCell ?_ ?_ _) | (with_reducible refine size_of ?_) | (with_reducible refine Nat.le_succ_of_le ?_) | go_size))))).mono ?_
        rintro e w8 ⟨rfl, hb8⟩
        rw [HF1.out]
        have hq8 : Below w7.heap.size w7 w8 := by (repeat' (first | (with_reducible exact Below.refl _ _) | (with_reducible assumption) | (with_reducible refine Below.next ?_ (by with_reducible assumption)) | (with_reducible refine Below.drew ?_) | (with_reducible refine Below.laid ?_ _) | (with_reducible refine Below.setCell ?_ ?_ _) | (with_reducible refine size_of ?_) | (with_reducible refine Nat.le_succ_of_le ?_) | go_size))
        have hw8 : Below w.heap.size w w8 := Below.next hw7 hq8
        replace BF := BF.keep hq8
        try clear BF0 BF1 BFl
        obtain ⟨⟨BF0, BF1⟩, _⟩ := BF.cells2
        have BFl := BF.lt
        replace BW := BW.keep hq8
        try clear BW0 BW1 BW2 BW3 BWl
        obtain ⟨BW0, BW1, BW2, BW3⟩ := BW.cells4
        have BWl := BW.lt
        go_wp2_with fail
        refine (vennsame_Error _ _ _ (HET.out.keep (by (repeat' (first | (with_reducible exact Below.refl _ _) | (with_reducible assumption) | (with_reducible refine Below.next ?_ (by with_reducible assumption)) | (with_reducible refine Below.drew ?_) | (with_reducible refine Below.laid ?_ _) | (with_reducible refine Below.setCell ?_ ?_ _) | (with_reducible refine size_of ?_) | (with_reducible refine Nat.le_succ_of_le ?_) | go_size))))).mono ?_
        rintro e w9 ⟨rfl, hb9⟩
        have hq9 : Below w8.heap.size w8 w9 := by (repeat' (first | (with_reducible exact Below.refl _ _) | (with_reducible assumption) | (with_reducible refine Below.next ?_ (by with_reducible assumption)) | (with_reducible refine Below.drew ?_) | (with_reducible refine Below.laid ?_ _) | (with_reducible refine Below.setCell ?_ ?_ _) | (with_reducible refine size_of ?_) | (with_reducible refine Nat.le_succ_of_le ?_) | go_size))
        have hw9 : Below w.heap.size w w9 := Below.next hw8 hq9
        go_wp2
        go_ret
        exact ⟨by simp, hw9⟩
    · have HVT := Lib.hid (HDT.out k (by omega))
      have HVF := Lib.hid (HDF.out k (by omega))
      have HP := Lib.hid (HSW.out k (by omega))
      obtain rfl : J = (k : Int) := by omega
      have hf0 := hBF.cell 0
      have hf1 := hBF.cell 1
      simp at hf0 hf1
      obtain ⟨c0, c1, c2, c3⟩ := hBX.cells4
      have fz := hBX.frozen 2
      have hlx := hBX.lt
      have hlo := hq2.size
      have hlo1 := hq1.size
      have hlo2 := hw2.size
      have hne1 : ¬ w.heap.size = w2.heap.size := by omega
      have hne2 : ¬ w.heap.size + 1 = w2.heap.size := by omega
      have hBX2 := hBX.set_ 2 (.int .i64 (k : Int))
      have hBF2 := hBF.far (p := ⟨w2.heap.size, 2, none⟩) (by simpa using hne1) (.int .i64 (k : Int))
      have hBW2 := hBW.far (p := ⟨w2.heap.size, 2, none⟩) (by simpa using hne2) (.int .i64 (k : Int))
      simp at hBX2
      have hk0 : (0 : Int) ≤ (k : Int) := by omega
      have hwj : IntKind.i64.wrap ((k : Int) - 1) = (k : Int) - 1 := IntWalk.i64_in _ (by omega)
      have HTR := Lib.hid (fun W h1 h2 => ref_True (.slice A l.length cA) (.slice C c.length cC) l c th a (k : Int) d W h1 h2 HX.out HP.out)
      generalize Venn.formTrue ⟨l, c⟩ ⟨th, a, (k : Int), d⟩ = TV at HTR HVT HVF
      cases TV
      all_goals
        go_wp2_with fail
        refine (HTR.out _ (HA.out.keep (by (repeat' (first | (with_reducible exact Below.refl _ _) | (with_reducible assumption) | (with_reducible refine Below.next ?_ (by with_reducible assumption)) | (with_reducible refine Below.drew ?_) | (with_reducible refine Below.laid ?_ _) | (with_reducible refine Below.setCell ?_ ?_ _) | (with_reducible refine size_of ?_) | (with_reducible refine Nat.le_succ_of_le ?_) | go_size)))) (HC.out.keep (by (repeat' (first | (with_reducible exact Below.refl _ _) | (with_reducible assumption) | (with_reducible refine Below.next ?_ (by with_reducible assumption)) | (with_reducible refine Below.drew ?_) | (with_reducible refine Below.laid ?_ _) | (with_reducible refine Below.setCell ?_ ?_ _) | (with_reducible refine size_of ?_) | (with_reducible refine Nat.le_succ_of_le ?_) | go_size))))).mono ?_
        rintro e wy ⟨rfl, hby⟩
        go_wp2
        go_roundw
        case rel => exact ⟨k, (k : Int) - 1, (k : Int), by omega, by omega, by go_num, by rw [HVT.out]; rfl, by rw [HVF.out]; rfl, by (repeat' (first | (with_reducible exact Below.refl _ _) | (with_reducible assumption) | (with_reducible refine Below.next ?_ (by with_reducible assumption)) | (with_reducible refine Below.drew ?_) | (with_reducible refine Below.laid ?_ _) | (with_reducible refine Below.setCell ?_ ?_ _) | (with_reducible refine size_of ?_) | (with_reducible refine Nat.le_succ_of_le ?_) | go_size)), hBF2.keep hby, hBW2.keep hby, hBX2.keep hby⟩
        case measure => simp [intOf]
set_option maxHeartbeats 8000000 in
set_option maxRecDepth 100000 in
theorem someTells_2 (sa sc : Value) (l : List Venn.Atom) (c : List Int) (th a b d : Int) (w : World) (ha : IsAtoms w sa l) (hc : IsInts w sc c) (hk : KindsOk w) (het : EtOk w) (hf : Venn.formChk ⟨l, c⟩ = 0) (hw : Venn.worldChk ⟨th, a, b, d⟩ = 0) :
    Calls Tryd.prog 4 #[.agg #[sa, sc], .int .i64 2, .agg #[.int .i64 th, .int .i64 a, .int .i64 b, .int .i64 d]] w (Keeps (.bool true) w) := by
  obtain ⟨A, cA, rfl⟩ := ha.slice
  obtain ⟨C, cC, rfl⟩ := hc.slice
  have HA := Lib.hid ha
  have HC := Lib.hid hc
  have HK := Lib.hid hk
  have HET := Lib.hid het
  clear ha hc hk het
  have hz : Venn.someChk ⟨l, c⟩ 2 ⟨th, a, b, d⟩ = 0 := by rw [Venn.someChk, if_pos hf, if_pos (by decide), hw]
  obtain ⟨pT, hpT⟩ : ∃ p : Nat → Bool, p = (fun s : Nat => Venn.formTrue ⟨l, c⟩ ((⟨th, a, b, d⟩ : Venn.World).put 2 (s : Int)) == true) := ⟨_, rfl⟩
  obtain ⟨pF, hpF⟩ : ∃ p : Nat → Bool, p = (fun s : Nat => Venn.formTrue ⟨l, c⟩ ((⟨th, a, b, d⟩ : Venn.World).put 2 (s : Int)) == false) := ⟨_, rfl⟩
  obtain ⟨N, hN⟩ : ∃ N : Nat, N = 2 ^ th.toNat := ⟨_, rfl⟩
  obtain ⟨FT, hFT⟩ : ∃ F, F = Venn.firstFrom pT N 0 := ⟨_, rfl⟩
  obtain ⟨EB, hEB⟩ : ∃ F : Bool, F = decide (Venn.firstFrom pF N 0 < 0) := ⟨_, rfl⟩
  have h1 : Venn.firstSet ⟨l, c⟩ 2 ⟨th, a, b, d⟩ true = FT := by rw [hFT, hN, hpT]; rfl
  have h2 : decide (Venn.firstSet ⟨l, c⟩ 2 ⟨th, a, b, d⟩ false < 0) = EB := by rw [hEB, hN, hpF]; rfl
  have HIS := Lib.hid (show Value.tuple #[.bool (someIsV l c 2 th a b d), errV (Venn.someChk ⟨l, c⟩ 2 ⟨th, a, b, d⟩)] = .tuple #[.bool (decide (0 ≤ FT)), errV 0] by rw [someIsV, if_pos hz, hz, h1])
  have HEA := Lib.hid (show Value.tuple #[.bool (someEachV l c 2 th a b d), errV (Venn.someChk ⟨l, c⟩ 2 ⟨th, a, b, d⟩)] = .tuple #[.bool EB, errV 0] by rw [someEachV, if_pos hz, hz, h2])
  have HF1 := Lib.hid (show firstVv l c 2 th a b d = if FT < 0 then .tuple #[.int .i64 0, errV 5] else .tuple #[.int .i64 FT, errV 0] by
    by_cases hn : FT < 0
    · have g2 : Venn.someFirstChk ⟨l, c⟩ 2 ⟨th, a, b, d⟩ = 5 := by rw [Venn.someFirstChk, if_pos hz, h1, if_pos hn]
      rw [firstVv, Venn.someFirstV, if_neg (by rw [g2]; decide), g2, if_pos hn]
    · have g2 : Venn.someFirstChk ⟨l, c⟩ 2 ⟨th, a, b, d⟩ = 0 := by rw [Venn.someFirstChk, if_pos hz, h1, if_neg hn]
      rw [firstVv, Venn.someFirstV, if_pos g2, g2, h1, if_neg hn])
  obtain ⟨hth, hwa, hwb, hwc⟩ := Venn.worldChk_iff.1 hw
  obtain ⟨hs0, hs63, hs2⟩ := allS_63 hth
  simp only at hth hs0 hs63 hs2 hwa hwb hwc
  rw [← hN] at hs2
  have hN64 : N ≤ 64 := by omega
  have HSW := Lib.hid (show ∀ k : Nat, k < N → Venn.worldChk ⟨th, a, b, (k : Int)⟩ = 0 from fun k hk => Venn.worldChk_iff.2 ⟨hth, hwa, hwb, setChk_le hth (by omega)⟩)
  have HDT := Lib.hid (show ∀ k : Nat, k < N → Venn.firstFrom pT (N - k) k = if Venn.formTrue ⟨l, c⟩ ⟨th, a, b, (k : Int)⟩ = true then (k : Int) else Venn.firstFrom pT (N - (k + 1)) (k + 1) from fun k hk => by
    rw [Venn.firstFrom_down hk, hpT]
    have : (Venn.formTrue ⟨l, c⟩ ((⟨th, a, b, d⟩ : Venn.World).put 2 (k : Int)) == true) = Venn.formTrue ⟨l, c⟩ ⟨th, a, b, (k : Int)⟩ := by
      rw [show (⟨th, a, b, d⟩ : Venn.World).put 2 (k : Int) = ⟨th, a, b, (k : Int)⟩ from rfl]; simp
    simp only [this])
  have HDF := Lib.hid (show ∀ k : Nat, k < N → decide (Venn.firstFrom pF (N - k) k < 0) = if Venn.formTrue ⟨l, c⟩ ⟨th, a, b, (k : Int)⟩ = true then decide (Venn.firstFrom pF (N - (k + 1)) (k + 1) < 0) else false from fun k hk => by
    rw [Venn.firstFrom_down hk, hpF]
    have : (Venn.formTrue ⟨l, c⟩ ((⟨th, a, b, d⟩ : Venn.World).put 2 (k : Int)) == false) = !Venn.formTrue ⟨l, c⟩ ⟨th, a, b, (k : Int)⟩ := by
      rw [show (⟨th, a, b, d⟩ : Venn.World).put 2 (k : Int) = ⟨th, a, b, (k : Int)⟩ from rfl]; cases Venn.formTrue ⟨l, c⟩ ⟨th, a, b, (k : Int)⟩ <;> rfl
    simp only [this]
    cases Venn.formTrue ⟨l, c⟩ ⟨th, a, b, (k : Int)⟩
    · simp
    · simp)
  have HX := Lib.hid hf
  have HY := Lib.hid hw
  have HFT := Lib.hid hFT
  have HEB := Lib.hid hEB
  have hth6 : th ≤ 61 := by simp [Venn.things] at hth; omega
  have HPW := Lib.hid (fun W => ref_Power th W hth6)
  rw [← hN] at HPW
  have hwr : IntKind.i64.wrap ((N : Int) - 1) = (N : Int) - 1 := IntWalk.i64_in _ (by omega)
  clear hf hw hz hpT hpF hN hFT hEB h1 h2 hth hwa hwb hwc hs0 hs2 hth6
  go_enter Tryd.func4, Tryd.ntmps4
  go_wp2_with fail
  refine (ref_Form _ _ l c _ (HA.out.keep (by (repeat' (first | (with_reducible exact Below.refl _ _) | (with_reducible assumption) | (with_reducible refine Below.next ?_ (by with_reducible assumption)) | (with_reducible refine Below.drew ?_) | (with_reducible refine Below.laid ?_ _) | (with_reducible refine Below.setCell ?_ ?_ _) | (with_reducible refine size_of ?_) | (with_reducible refine Nat.le_succ_of_le ?_) | go_size)))) (HC.out.keep (by (repeat' (first | (with_reducible exact Below.refl _ _) | (with_reducible assumption) | (with_reducible refine Below.next ?_ (by with_reducible assumption)) | (with_reducible refine Below.drew ?_) | (with_reducible refine Below.laid ?_ _) | (with_reducible refine Below.setCell ?_ ?_ _) | (with_reducible refine size_of ?_) | (with_reducible refine Nat.le_succ_of_le ?_) | go_size))))).mono ?_
  rintro e w1 ⟨rfl, hb1⟩
  rw [HX.out]
  have hq1 : Below w.heap.size w w1 := by (repeat' (first | (with_reducible exact Below.refl _ _) | (with_reducible assumption) | (with_reducible refine Below.next ?_ (by with_reducible assumption)) | (with_reducible refine Below.drew ?_) | (with_reducible refine Below.laid ?_ _) | (with_reducible refine Below.setCell ?_ ?_ _) | (with_reducible refine size_of ?_) | (with_reducible refine Nat.le_succ_of_le ?_) | go_size))
  have hw1 : Below w.heap.size w w1 := hq1
  have BF : Blk w1 w.heap.size 25 #[.slice A l.length cA, .slice C c.length cC] := (boxes24 hb1).1
  have BW : Blk w1 (w.heap.size + 1) 28 #[.int .i64 th, .int .i64 a, .int .i64 b, .int .i64 d] := (boxes24 hb1).2
  obtain ⟨⟨BF0, BF1⟩, _⟩ := BF.cells2
  have BFl := BF.lt
  obtain ⟨BW0, BW1, BW2, BW3⟩ := BW.cells4
  have BWl := BW.lt
  go_wp2_with fail
  refine (ref_World _ _ _ _ _).mono ?_
  rintro e w2 ⟨rfl, hb2⟩
  rw [HY.out]
  have hq2 : Below w1.heap.size w1 w2 := by (repeat' (first | (with_reducible exact Below.refl _ _) | (with_reducible assumption) | (with_reducible refine Below.next ?_ (by with_reducible assumption)) | (with_reducible refine Below.drew ?_) | (with_reducible refine Below.laid ?_ _) | (with_reducible refine Below.setCell ?_ ?_ _) | (with_reducible refine size_of ?_) | (with_reducible refine Nat.le_succ_of_le ?_) | go_size))
  have hw2 : Below w.heap.size w w2 := Below.next hw1 hq2
  replace BF := BF.keep hq2
  try clear BF0 BF1 BFl
  obtain ⟨⟨BF0, BF1⟩, _⟩ := BF.cells2
  have BFl := BF.lt
  replace BW := BW.keep hq2
  try clear BW0 BW1 BW2 BW3 BWl
  obtain ⟨BW0, BW1, BW2, BW3⟩ := BW.cells4
  have BWl := BW.lt
  have hlt2 := BW.lt
  go_wp2_with (go_at_call 19; refine (HPW.out _).mono ?_; rintro e w' ⟨rfl, rfl⟩)
  go_loopw [8, 9, 11] (fun fi ea s wr => ∃ (k : Nat) (J X : Int), k ≤ N ∧ J + 1 = (k : Int) ∧ s = .int .i64 J ∧ fi = .int .i64 (Venn.firstFrom pT (N - k) k) ∧ ea = .bool (decide (Venn.firstFrom pF (N - k) k < 0)) ∧ Below w.heap.size w wr ∧ Blk wr w.heap.size 25 #[.slice A l.length cA, .slice C c.length cC] ∧ Blk wr (w.heap.size + 1) 28 #[.int .i64 th, .int .i64 a, .int .i64 b, .int .i64 d] ∧ Blk wr w2.heap.size 28 #[.int .i64 th, .int .i64 a, .int .i64 b, .int .i64 X])
    (fun _ _ s _ => (intOf s + 1).toNat)
  case atStart => exact ⟨N, (N : Int) - 1, _, Nat.le_refl _, by omega, rfl, by rw [Nat.sub_self]; rfl, by rw [Nat.sub_self]; rfl, by (repeat' (first | (with_reducible exact Below.refl _ _) | (with_reducible assumption) | (with_reducible refine Below.next ?_ (by with_reducible assumption)) | (with_reducible refine Below.drew ?_) | (with_reducible refine Below.laid ?_ _) | (with_reducible refine Below.setCell ?_ ?_ _) | (with_reducible refine size_of ?_) | (with_reducible refine Nat.le_succ_of_le ?_) | go_size)), BF.alloc _, BW.alloc _, Blk.new _ _ _⟩
  case round =>
    clear BF0 BF1 BFl BW0 BW1 BW2 BW3 BWl BF BW
    obtain ⟨k, J, X, hk, hJ, rfl, rfl, rfl, hb, hBF, hBW, hBX⟩ := hrel
    obtain ⟨wo, rfl⟩ : ∃ wo : World, wo = wr := ⟨_, rfl⟩
    rcases k with _ | k
    · have hJ0 : ¬ 0 ≤ J := by omega
      rw [Nat.sub_zero, ← HFT.out, ← HEB.out]
      have BF := hBF
      have BW := hBW
      have hw3 := hb
      obtain ⟨w3, rfl⟩ : ∃ w3 : World, w3 = wo := ⟨_, rfl⟩
      obtain ⟨⟨BF0, BF1⟩, _⟩ := BF.cells2
      have BFl := BF.lt
      obtain ⟨BW0, BW1, BW2, BW3⟩ := BW.cells4
      have BWl := BW.lt
      by_cases hneg : FT < 0
      · have hd : decide (0 ≤ FT) = false := by simp; omega
        rw [hd] at HIS
        rw [if_pos hneg] at HF1
        have hge : ¬ 0 ≤ FT := by omega
        go_wp2_with fail
        refine (some_Is _ _ l c _ _ _ _ _ _ (HA.out.keep (by (repeat' (first | (with_reducible exact Below.refl _ _) | (with_reducible assumption) | (with_reducible refine Below.next ?_ (by with_reducible assumption)) | (with_reducible refine Below.drew ?_) | (with_reducible refine Below.laid ?_ _) | (with_reducible refine Below.setCell ?_ ?_ _) | (with_reducible refine size_of ?_) | (with_reducible refine Nat.le_succ_of_le ?_) | go_size)))) (HC.out.keep (by (repeat' (first | (with_reducible exact Below.refl _ _) | (with_reducible assumption) | (with_reducible refine Below.next ?_ (by with_reducible assumption)) | (with_reducible refine Below.drew ?_) | (with_reducible refine Below.laid ?_ _) | (with_reducible refine Below.setCell ?_ ?_ _) | (with_reducible refine size_of ?_) | (with_reducible refine Nat.le_succ_of_le ?_) | go_size)))) (HK.out.keep (by (repeat' (first | (with_reducible exact Below.refl _ _) | (with_reducible assumption) | (with_reducible refine Below.next ?_ (by with_reducible assumption)) | (with_reducible refine Below.drew ?_) | (with_reducible refine Below.laid ?_ _) | (with_reducible refine Below.setCell ?_ ?_ _) | (with_reducible refine size_of ?_) | (with_reducible refine Nat.le_succ_of_le ?_) | go_size))))).mono ?_
        rintro e w4 ⟨rfl, hb4⟩
        rw [HIS.out]
        have hq4 : Below w3.heap.size w3 w4 := by (repeat' (first | (with_reducible exact Below.refl _ _) | (with_reducible assumption) | (with_reducible refine Below.next ?_ (by with_reducible assumption)) | (with_reducible refine Below.drew ?_) | (with_reducible refine Below.laid ?_ _) | (with_reducible refine Below.setCell ?_ ?_ _) | (with_reducible refine size_of ?_) | (with_reducible refine Nat.le_succ_of_le ?_) | go_size))
        have hw4 : Below w.heap.size w w4 := Below.next hw3 hq4
        replace BF := BF.keep hq4
        try clear BF0 BF1 BFl
        obtain ⟨⟨BF0, BF1⟩, _⟩ := BF.cells2
        have BFl := BF.lt
        replace BW := BW.keep hq4
        try clear BW0 BW1 BW2 BW3 BWl
        obtain ⟨BW0, BW1, BW2, BW3⟩ := BW.cells4
        have BWl := BW.lt
        go_wp2_with fail
        refine (vennsame_Error _ _ _ (HET.out.keep (by (repeat' (first | (with_reducible exact Below.refl _ _) | (with_reducible assumption) | (with_reducible refine Below.next ?_ (by with_reducible assumption)) | (with_reducible refine Below.drew ?_) | (with_reducible refine Below.laid ?_ _) | (with_reducible refine Below.setCell ?_ ?_ _) | (with_reducible refine size_of ?_) | (with_reducible refine Nat.le_succ_of_le ?_) | go_size))))).mono ?_
        rintro e w5 ⟨rfl, hb5⟩
        have hq5 : Below w4.heap.size w4 w5 := by (repeat' (first | (with_reducible exact Below.refl _ _) | (with_reducible assumption) | (with_reducible refine Below.next ?_ (by with_reducible assumption)) | (with_reducible refine Below.drew ?_) | (with_reducible refine Below.laid ?_ _) | (with_reducible refine Below.setCell ?_ ?_ _) | (with_reducible refine size_of ?_) | (with_reducible refine Nat.le_succ_of_le ?_) | go_size))
        have hw5 : Below w.heap.size w w5 := Below.next hw4 hq5
        replace BF := BF.keep hq5
        try clear BF0 BF1 BFl
        obtain ⟨⟨BF0, BF1⟩, _⟩ := BF.cells2
        have BFl := BF.lt
        replace BW := BW.keep hq5
        try clear BW0 BW1 BW2 BW3 BWl
        obtain ⟨BW0, BW1, BW2, BW3⟩ := BW.cells4
        have BWl := BW.lt
        go_wp2_with fail
        refine (some_Each _ _ l c _ _ _ _ _ _ (HA.out.keep (by (repeat' (first | (with_reducible exact Below.refl _ _) | (with_reducible assumption) | (with_reducible refine Below.next ?_ (by with_reducible assumption)) | (with_reducible refine Below.drew ?_) | (with_reducible refine Below.laid ?_ _) | (with_reducible refine Below.setCell ?_ ?_ _) | (with_reducible refine size_of ?_) | (with_reducible refine Nat.le_succ_of_le ?_) | go_size)))) (HC.out.keep (by (repeat' (first | (with_reducible exact Below.refl _ _) | (with_reducible assumption) | (with_reducible refine Below.next ?_ (by with_reducible assumption)) | (with_reducible refine Below.drew ?_) | (with_reducible refine Below.laid ?_ _) | (with_reducible refine Below.setCell ?_ ?_ _) | (with_reducible refine size_of ?_) | (with_reducible refine Nat.le_succ_of_le ?_) | go_size)))) (HK.out.keep (by (repeat' (first | (with_reducible exact Below.refl _ _) | (with_reducible assumption) | (with_reducible refine Below.next ?_ (by with_reducible assumption)) | (with_reducible refine Below.drew ?_) | (with_reducible refine Below.laid ?_ _) | (with_reducible refine Below.setCell ?_ ?_ _) | (with_reducible refine size_of ?_) | (with_reducible refine Nat.le_succ_of_le ?_) | go_size))))).mono ?_
        rintro e w6 ⟨rfl, hb6⟩
        rw [HEA.out]
        have hq6 : Below w5.heap.size w5 w6 := by (repeat' (first | (with_reducible exact Below.refl _ _) | (with_reducible assumption) | (with_reducible refine Below.next ?_ (by with_reducible assumption)) | (with_reducible refine Below.drew ?_) | (with_reducible refine Below.laid ?_ _) | (with_reducible refine Below.setCell ?_ ?_ _) | (with_reducible refine size_of ?_) | (with_reducible refine Nat.le_succ_of_le ?_) | go_size))
        have hw6 : Below w.heap.size w w6 := Below.next hw5 hq6
        replace BF := BF.keep hq6
        try clear BF0 BF1 BFl
        obtain ⟨⟨BF0, BF1⟩, _⟩ := BF.cells2
        have BFl := BF.lt
        replace BW := BW.keep hq6
        try clear BW0 BW1 BW2 BW3 BWl
        obtain ⟨BW0, BW1, BW2, BW3⟩ := BW.cells4
        have BWl := BW.lt
        go_wp2_with fail
        refine (vennsame_Error _ _ _ (HET.out.keep (by (repeat' (first | (with_reducible exact Below.refl _ _) | (with_reducible assumption) | (with_reducible refine Below.next ?_ (by with_reducible assumption)) | (with_reducible refine Below.drew ?_) | (with_reducible refine Below.laid ?_ _) | (with_reducible refine Below.setCell ?_ ?_ _) | (with_reducible refine size_of ?_) | (with_reducible refine Nat.le_succ_of_le ?_) | go_size))))).mono ?_
        rintro e w7 ⟨rfl, hb7⟩
        have hq7 : Below w6.heap.size w6 w7 := by (repeat' (first | (with_reducible exact Below.refl _ _) | (with_reducible assumption) | (with_reducible refine Below.next ?_ (by with_reducible assumption)) | (with_reducible refine Below.drew ?_) | (with_reducible refine Below.laid ?_ _) | (with_reducible refine Below.setCell ?_ ?_ _) | (with_reducible refine size_of ?_) | (with_reducible refine Nat.le_succ_of_le ?_) | go_size))
        have hw7 : Below w.heap.size w w7 := Below.next hw6 hq7
        replace BF := BF.keep hq7
        try clear BF0 BF1 BFl
        obtain ⟨⟨BF0, BF1⟩, _⟩ := BF.cells2
        have BFl := BF.lt
        replace BW := BW.keep hq7
        try clear BW0 BW1 BW2 BW3 BWl
        obtain ⟨BW0, BW1, BW2, BW3⟩ := BW.cells4
        have BWl := BW.lt
        go_wp2_with fail
        refine (some_First _ _ l c _ _ _ _ _ _ (HA.out.keep (by (repeat' (first | (with_reducible exact Below.refl _ _) | (with_reducible assumption) | (with_reducible refine Below.next ?_ (by with_reducible assumption)) | (with_reducible refine Below.drew ?_) | (with_reducible refine Below.laid ?_ _) | (with_reducible refine Below.setCell ?_ ?_ _) | (with_reducible refine size_of ?_) | (with_reducible refine Nat.le_succ_of_le ?_) | go_size)))) (HC.out.keep (by (repeat' (first | (with_reducible exact Below.refl _ _) | (with_reducible assumption) | (with_reducible refine Below.next ?_ (by with_reducible assumption)) | (with_reducible refine Below.drew ?_) | (with_reducible refine Below.laid ?_ _) | (with_reducible refine Below.setCell ?_ ?_ _) | (with_reducible refine size_of ?_) | (with_reducible refine Nat.le_succ_of_le ?_) | go_size)))) (HK.out.keep (by (repeat' (first | (with_reducible exact Below.refl _ _) | (with_reducible assumption) | (with_reducible refine Below.next ?_ (by with_reducible assumption)) | (with_reducible refine Below.drew ?_) | (with_reducible refine Below.laid ?_ _) | (with_reducible refine Below.setCell ?_ ?_ _) | (with_reducible refine size_of ?_) | (with_reducible refine Nat.le_succ_of_le ?_) | go_size))))).mono ?_
        rintro e w8 ⟨rfl, hb8⟩
        rw [HF1.out]
        have hq8 : Below w7.heap.size w7 w8 := by (repeat' (first | (with_reducible exact Below.refl _ _) | (with_reducible assumption) | (with_reducible refine Below.next ?_ (by with_reducible assumption)) | (with_reducible refine Below.drew ?_) | (with_reducible refine Below.laid ?_ _) | (with_reducible refine Below.setCell ?_ ?_ _) | (with_reducible refine size_of ?_) | (with_reducible refine Nat.le_succ_of_le ?_) | go_size))
        have hw8 : Below w.heap.size w w8 := Below.next hw7 hq8
        replace BF := BF.keep hq8
        try clear BF0 BF1 BFl
        obtain ⟨⟨BF0, BF1⟩, _⟩ := BF.cells2
        have BFl := BF.lt
        replace BW := BW.keep hq8
        try clear BW0 BW1 BW2 BW3 BWl
        obtain ⟨BW0, BW1, BW2, BW3⟩ := BW.cells4
        have BWl := BW.lt
        go_wp2_with fail
        refine (vennsame_Error _ _ _ (HET.out.keep (by (repeat' (first | (with_reducible exact Below.refl _ _) | (with_reducible assumption) | (with_reducible refine Below.next ?_ (by with_reducible assumption)) | (with_reducible refine Below.drew ?_) | (with_reducible refine Below.laid ?_ _) | (with_reducible refine Below.setCell ?_ ?_ _) | (with_reducible refine size_of ?_) | (with_reducible refine Nat.le_succ_of_le ?_) | go_size))))).mono ?_
        rintro e w9 ⟨rfl, hb9⟩
        have hq9 : Below w8.heap.size w8 w9 := by (repeat' (first | (with_reducible exact Below.refl _ _) | (with_reducible assumption) | (with_reducible refine Below.next ?_ (by with_reducible assumption)) | (with_reducible refine Below.drew ?_) | (with_reducible refine Below.laid ?_ _) | (with_reducible refine Below.setCell ?_ ?_ _) | (with_reducible refine size_of ?_) | (with_reducible refine Nat.le_succ_of_le ?_) | go_size))
        have hw9 : Below w.heap.size w w9 := Below.next hw8 hq9
        go_wp2
        go_ret
        exact ⟨by simp, hw9⟩
      · have hge : 0 ≤ FT := by omega
        have hd : decide (0 ≤ FT) = true := by simp; omega
        rw [hd] at HIS
        rw [if_neg hneg] at HF1
        go_wp2_with fail
        refine (some_Is _ _ l c _ _ _ _ _ _ (HA.out.keep (by (repeat' (first | (with_reducible exact Below.refl _ _) | (with_reducible assumption) | (with_reducible refine Below.next ?_ (by with_reducible assumption)) | (with_reducible refine Below.drew ?_) | (with_reducible refine Below.laid ?_ _) | (with_reducible refine Below.setCell ?_ ?_ _) | (with_reducible refine size_of ?_) | (with_reducible refine Nat.le_succ_of_le ?_) | go_size)))) (HC.out.keep (by (repeat' (first | (with_reducible exact Below.refl _ _) | (with_reducible assumption) | (with_reducible refine Below.next ?_ (by with_reducible assumption)) | (with_reducible refine Below.drew ?_) | (with_reducible refine Below.laid ?_ _) | (with_reducible refine Below.setCell ?_ ?_ _) | (with_reducible refine size_of ?_) | (with_reducible refine Nat.le_succ_of_le ?_) | go_size)))) (HK.out.keep (by (repeat' (first | (with_reducible exact Below.refl _ _) | (with_reducible assumption) | (with_reducible refine Below.next ?_ (by with_reducible assumption)) | (with_reducible refine Below.drew ?_) | (with_reducible refine Below.laid ?_ _) | (with_reducible refine Below.setCell ?_ ?_ _) | (with_reducible refine size_of ?_) | (with_reducible refine Nat.le_succ_of_le ?_) | go_size))))).mono ?_
        rintro e w4 ⟨rfl, hb4⟩
        rw [HIS.out]
        have hq4 : Below w3.heap.size w3 w4 := by (repeat' (first | (with_reducible exact Below.refl _ _) | (with_reducible assumption) | (with_reducible refine Below.next ?_ (by with_reducible assumption)) | (with_reducible refine Below.drew ?_) | (with_reducible refine Below.laid ?_ _) | (with_reducible refine Below.setCell ?_ ?_ _) | (with_reducible refine size_of ?_) | (with_reducible refine Nat.le_succ_of_le ?_) | go_size))
        have hw4 : Below w.heap.size w w4 := Below.next hw3 hq4
        replace BF := BF.keep hq4
        try clear BF0 BF1 BFl
        obtain ⟨⟨BF0, BF1⟩, _⟩ := BF.cells2
        have BFl := BF.lt
        replace BW := BW.keep hq4
        try clear BW0 BW1 BW2 BW3 BWl
        obtain ⟨BW0, BW1, BW2, BW3⟩ := BW.cells4
        have BWl := BW.lt
        go_wp2_with fail
        refine (vennsame_Error _ _ _ (HET.out.keep (by (repeat' (first | (with_reducible exact Below.refl _ _) | (with_reducible assumption) | (with_reducible refine Below.next ?_ (by with_reducible assumption)) | (with_reducible refine Below.drew ?_) | (with_reducible refine Below.laid ?_ _) | (with_reducible refine Below.setCell ?_ ?_ _) | (with_reducible refine size_of ?_) | (with_reducible refine Nat.le_succ_of_le ?_) | go_size))))).mono ?_
        rintro e w5 ⟨rfl, hb5⟩
        have hq5 : Below w4.heap.size w4 w5 := by (repeat' (first | (with_reducible exact Below.refl _ _) | (with_reducible assumption) | (with_reducible refine Below.next ?_ (by with_reducible assumption)) | (with_reducible refine Below.drew ?_) | (with_reducible refine Below.laid ?_ _) | (with_reducible refine Below.setCell ?_ ?_ _) | (with_reducible refine size_of ?_) | (with_reducible refine Nat.le_succ_of_le ?_) | go_size))
        have hw5 : Below w.heap.size w w5 := Below.next hw4 hq5
        replace BF := BF.keep hq5
        try clear BF0 BF1 BFl
        obtain ⟨⟨BF0, BF1⟩, _⟩ := BF.cells2
        have BFl := BF.lt
        replace BW := BW.keep hq5
        try clear BW0 BW1 BW2 BW3 BWl
        obtain ⟨BW0, BW1, BW2, BW3⟩ := BW.cells4
        have BWl := BW.lt
        go_wp2_with fail
        refine (some_Each _ _ l c _ _ _ _ _ _ (HA.out.keep (by (repeat' (first | (with_reducible exact Below.refl _ _) | (with_reducible assumption) | (with_reducible refine Below.next ?_ (by with_reducible assumption)) | (with_reducible refine Below.drew ?_) | (with_reducible refine Below.laid ?_ _) | (with_reducible refine Below.setCell ?_ ?_ _) | (with_reducible refine size_of ?_) | (with_reducible refine Nat.le_succ_of_le ?_) | go_size)))) (HC.out.keep (by (repeat' (first | (with_reducible exact Below.refl _ _) | (with_reducible assumption) | (with_reducible refine Below.next ?_ (by with_reducible assumption)) | (with_reducible refine Below.drew ?_) | (with_reducible refine Below.laid ?_ _) | (with_reducible refine Below.setCell ?_ ?_ _) | (with_reducible refine size_of ?_) | (with_reducible refine Nat.le_succ_of_le ?_) | go_size)))) (HK.out.keep (by (repeat' (first | (with_reducible exact Below.refl _ _) | (with_reducible assumption) | (with_reducible refine Below.next ?_ (by with_reducible assumption)) | (with_reducible refine Below.drew ?_) | (with_reducible refine Below.laid ?_ _) | (with_reducible refine Below.setCell ?_ ?_ _) | (with_reducible refine size_of ?_) | (with_reducible refine Nat.le_succ_of_le ?_) | go_size))))).mono ?_
        rintro e w6 ⟨rfl, hb6⟩
        rw [HEA.out]
        have hq6 : Below w5.heap.size w5 w6 := by (repeat' (first | (with_reducible exact Below.refl _ _) | (with_reducible assumption) | (with_reducible refine Below.next ?_ (by with_reducible assumption)) | (with_reducible refine Below.drew ?_) | (with_reducible refine Below.laid ?_ _) | (with_reducible refine Below.setCell ?_ ?_ _) | (with_reducible refine size_of ?_) | (with_reducible refine Nat.le_succ_of_le ?_) | go_size))
        have hw6 : Below w.heap.size w w6 := Below.next hw5 hq6
        replace BF := BF.keep hq6
        try clear BF0 BF1 BFl
        obtain ⟨⟨BF0, BF1⟩, _⟩ := BF.cells2
        have BFl := BF.lt
        replace BW := BW.keep hq6
        try clear BW0 BW1 BW2 BW3 BWl
        obtain ⟨BW0, BW1, BW2, BW3⟩ := BW.cells4
        have BWl := BW.lt
        go_wp2_with fail
        refine (vennsame_Error _ _ _ (HET.out.keep (by (repeat' (first | (with_reducible exact Below.refl _ _) | (with_reducible assumption) | (with_reducible refine Below.next ?_ (by with_reducible assumption)) | (with_reducible refine Below.drew ?_) | (with_reducible refine Below.laid ?_ _) | (with_reducible refine Below.setCell ?_ ?_ _) | (with_reducible refine size_of ?_) | (with_reducible refine Nat.le_succ_of_le ?_) | go_size))))).mono ?_
        rintro e w7 ⟨rfl, hb7⟩
        have hq7 : Below w6.heap.size w6 w7 := by (repeat' (first | (with_reducible exact Below.refl _ _) | (with_reducible assumption) | (with_reducible refine Below.next ?_ (by with_reducible assumption)) | (with_reducible refine Below.drew ?_) | (with_reducible refine Below.laid ?_ _) | (with_reducible refine Below.setCell ?_ ?_ _) | (with_reducible refine size_of ?_) | (with_reducible refine Nat.le_succ_of_le ?_) | go_size))
        have hw7 : Below w.heap.size w w7 := Below.next hw6 hq7
        replace BF := BF.keep hq7
        try clear BF0 BF1 BFl
        obtain ⟨⟨BF0, BF1⟩, _⟩ := BF.cells2
        have BFl := BF.lt
        replace BW := BW.keep hq7
        try clear BW0 BW1 BW2 BW3 BWl
        obtain ⟨BW0, BW1, BW2, BW3⟩ := BW.cells4
        have BWl := BW.lt
        go_wp2_with fail
        refine (some_First _ _ l c _ _ _ _ _ _ (HA.out.keep (by (repeat' (first | (with_reducible exact Below.refl _ _) | (with_reducible assumption) | (with_reducible refine Below.next ?_ (by with_reducible assumption)) | (with_reducible refine Below.drew ?_) | (with_reducible refine Below.laid ?_ _) | (with_reducible refine Below.setCell ?_ ?_ _) | (with_reducible refine size_of ?_) | (with_reducible refine Nat.le_succ_of_le ?_) | go_size)))) (HC.out.keep (by (repeat' (first | (with_reducible exact Below.refl _ _) | (with_reducible assumption) | (with_reducible refine Below.next ?_ (by with_reducible assumption)) | (with_reducible refine Below.drew ?_) | (with_reducible refine Below.laid ?_ _) | (with_reducible refine Below.setCell ?_ ?_ _) | (with_reducible refine size_of ?_) | (with_reducible refine Nat.le_succ_of_le ?_) | go_size)))) (HK.out.keep (by (repeat' (first | (with_reducible exact Below.refl _ _) | (with_reducible assumption) | (with_reducible refine Below.next ?_ (by with_reducible assumption)) | (with_reducible refine Below.drew ?_) | (with_reducible refine Below.laid ?_ _) | (with_reducible refine Below.setCell ?_ ?_ _) | (with_reducible refine size_of ?_) | (with_reducible refine Nat.le_succ_of_le ?_) | go_size))))).mono ?_
        rintro e w8 ⟨rfl, hb8⟩
        rw [HF1.out]
        have hq8 : Below w7.heap.size w7 w8 := by (repeat' (first | (with_reducible exact Below.refl _ _) | (with_reducible assumption) | (with_reducible refine Below.next ?_ (by with_reducible assumption)) | (with_reducible refine Below.drew ?_) | (with_reducible refine Below.laid ?_ _) | (with_reducible refine Below.setCell ?_ ?_ _) | (with_reducible refine size_of ?_) | (with_reducible refine Nat.le_succ_of_le ?_) | go_size))
        have hw8 : Below w.heap.size w w8 := Below.next hw7 hq8
        replace BF := BF.keep hq8
        try clear BF0 BF1 BFl
        obtain ⟨⟨BF0, BF1⟩, _⟩ := BF.cells2
        have BFl := BF.lt
        replace BW := BW.keep hq8
        try clear BW0 BW1 BW2 BW3 BWl
        obtain ⟨BW0, BW1, BW2, BW3⟩ := BW.cells4
        have BWl := BW.lt
        go_wp2_with fail
        refine (vennsame_Error _ _ _ (HET.out.keep (by (repeat' (first | (with_reducible exact Below.refl _ _) | (with_reducible assumption) | (with_reducible refine Below.next ?_ (by with_reducible assumption)) | (with_reducible refine Below.drew ?_) | (with_reducible refine Below.laid ?_ _) | (with_reducible refine Below.setCell ?_ ?_ _) | (with_reducible refine size_of ?_) | (with_reducible refine Nat.le_succ_of_le ?_) | go_size))))).mono ?_
        rintro e w9 ⟨rfl, hb9⟩
        have hq9 : Below w8.heap.size w8 w9 := by (repeat' (first | (with_reducible exact Below.refl _ _) | (with_reducible assumption) | (with_reducible refine Below.next ?_ (by with_reducible assumption)) | (with_reducible refine Below.drew ?_) | (with_reducible refine Below.laid ?_ _) | (with_reducible refine Below.setCell ?_ ?_ _) | (with_reducible refine size_of ?_) | (with_reducible refine Nat.le_succ_of_le ?_) | go_size))
        have hw9 : Below w.heap.size w w9 := Below.next hw8 hq9
        go_wp2
        go_ret
        exact ⟨by simp, hw9⟩
    · have HVT := Lib.hid (HDT.out k (by omega))
      have HVF := Lib.hid (HDF.out k (by omega))
      have HP := Lib.hid (HSW.out k (by omega))
      obtain rfl : J = (k : Int) := by omega
      have hf0 := hBF.cell 0
      have hf1 := hBF.cell 1
      simp at hf0 hf1
      obtain ⟨c0, c1, c2, c3⟩ := hBX.cells4
      have fz := hBX.frozen 3
      have hlx := hBX.lt
      have hlo := hq2.size
      have hlo1 := hq1.size
      have hlo2 := hw2.size
      have hne1 : ¬ w.heap.size = w2.heap.size := by omega
      have hne2 : ¬ w.heap.size + 1 = w2.heap.size := by omega
      have hBX2 := hBX.set_ 3 (.int .i64 (k : Int))
      have hBF2 := hBF.far (p := ⟨w2.heap.size, 3, none⟩) (by simpa using hne1) (.int .i64 (k : Int))
      have hBW2 := hBW.far (p := ⟨w2.heap.size, 3, none⟩) (by simpa using hne2) (.int .i64 (k : Int))
      simp at hBX2
      have hk0 : (0 : Int) ≤ (k : Int) := by omega
      have hwj : IntKind.i64.wrap ((k : Int) - 1) = (k : Int) - 1 := IntWalk.i64_in _ (by omega)
      have HTR := Lib.hid (fun W h1 h2 => ref_True (.slice A l.length cA) (.slice C c.length cC) l c th a b (k : Int) W h1 h2 HX.out HP.out)
      generalize Venn.formTrue ⟨l, c⟩ ⟨th, a, b, (k : Int)⟩ = TV at HTR HVT HVF
      cases TV
      all_goals
        go_wp2_with fail
        refine (HTR.out _ (HA.out.keep (by (repeat' (first | (with_reducible exact Below.refl _ _) | (with_reducible assumption) | (with_reducible refine Below.next ?_ (by with_reducible assumption)) | (with_reducible refine Below.drew ?_) | (with_reducible refine Below.laid ?_ _) | (with_reducible refine Below.setCell ?_ ?_ _) | (with_reducible refine size_of ?_) | (with_reducible refine Nat.le_succ_of_le ?_) | go_size)))) (HC.out.keep (by (repeat' (first | (with_reducible exact Below.refl _ _) | (with_reducible assumption) | (with_reducible refine Below.next ?_ (by with_reducible assumption)) | (with_reducible refine Below.drew ?_) | (with_reducible refine Below.laid ?_ _) | (with_reducible refine Below.setCell ?_ ?_ _) | (with_reducible refine size_of ?_) | (with_reducible refine Nat.le_succ_of_le ?_) | go_size))))).mono ?_
        rintro e wy ⟨rfl, hby⟩
        go_wp2
        go_roundw
        case rel => exact ⟨k, (k : Int) - 1, (k : Int), by omega, by omega, by go_num, by rw [HVT.out]; rfl, by rw [HVF.out]; rfl, by (repeat' (first | (with_reducible exact Below.refl _ _) | (with_reducible assumption) | (with_reducible refine Below.next ?_ (by with_reducible assumption)) | (with_reducible refine Below.drew ?_) | (with_reducible refine Below.laid ?_ _) | (with_reducible refine Below.setCell ?_ ?_ _) | (with_reducible refine size_of ?_) | (with_reducible refine Nat.le_succ_of_le ?_) | go_size)), hBF2.keep hby, hBW2.keep hby, hBX2.keep hby⟩
        case measure => simp [intOf]
theorem someTells_walk (sa sc : Value) (l : List Venn.Atom) (c : List Int) (name th a b d : Int) (w : World) (ha : IsAtoms w sa l) (hc : IsInts w sc c) (hk : KindsOk w) (het : EtOk w) :
    Calls Tryd.prog 4 #[.agg #[sa, sc], .int .i64 name, .agg #[.int .i64 th, .int .i64 a, .int .i64 b, .int .i64 d]] w (Keeps (.bool true) w) := by
  by_cases hz : Venn.someChk ⟨l, c⟩ name ⟨th, a, b, d⟩ = 0
  · obtain ⟨hf, hn, hw⟩ := someChk_parts hz
    have hn3 : name = 0 ∨ name = 1 ∨ name = 2 := by simp [Venn.nameOk] at hn; omega
    rcases hn3 with rfl | rfl | rfl
    · exact someTells_0 sa sc l c th a b d w ha hc hk het hf hw
    · exact someTells_1 sa sc l c th a b d w ha hc hk het hf hw
    · exact someTells_2 sa sc l c th a b d w ha hc hk het hf hw
  · exact someTells_bad sa sc l c name th a b d w ha hc hk het hz
end Go.Proofs.YtcecbpbpknphjaaDoor
