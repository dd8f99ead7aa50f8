/-
  THE WALK of vennlaw2.SpanTells.
-/
import Derived.Test.YtcecbpbpknphjaaDoorRefSpan
import Derived.Test.YtcecbpbpknphjaaDoorEql
import Derived.Test.YtcecbpbpknphjaaDoorLawF
import Derived.BigQuiet
namespace Go.Proofs.YtcecbpbpknphjaaDoor
open Go.RowKit

set_option maxHeartbeats 8000000 in
set_option maxRecDepth 100000 in
theorem spanTells_walk (sa sc tv : Value) (l : List Venn.Atom) (c t : List Int) (u : Int) (w : World) (ha : IsAtoms w sa l) (hc : IsInts w sc c) (ht : IsInts w tv t) (hk : KindsOk w) (het : EtOk w) :
    Calls Tryd.prog 5 #[.agg #[sa, sc], tv, .int .i64 u] w (Keeps (.bool true) w) := by
  obtain ⟨A, cA, rfl⟩ := ha.slice
  obtain ⟨C, cC, rfl⟩ := hc.slice
  obtain ⟨tA, tN, rfl⟩ := ht.slice
  have HA := Lib.hid ha
  have HC := Lib.hid hc
  have HT := Lib.hid ht
  have HK := Lib.hid hk
  have HET := Lib.hid het
  clear ha hc ht hk het
  obtain ⟨P1, hP1⟩ : ∃ P, P = (Venn.spanV ⟨l, c⟩ t u).1 := ⟨_, rfl⟩
  obtain ⟨P2, hP2⟩ : ∃ P, P = (Venn.spanV ⟨l, c⟩ t u).2 := ⟨_, rfl⟩
  obtain ⟨E, hE⟩ : ∃ E, E = Venn.spanChk ⟨l, c⟩ t u := ⟨_, rfl⟩
  have HRV := Lib.hid (show refSpanV ⟨l, c⟩ t u = .tuple #[.agg #[.int .i64 P1, .int .i64 P2], .int .i64 E] by rw [refSpanV, hP1, hP2, hE])
  have HSV := Lib.hid (show spanVv ⟨l, c⟩ t u = .tuple #[.agg #[.int .i64 P1, .int .i64 P2], errV E] by rw [spanVv, hP1, hP2, hE])
  by_cases hz : E = 0
  · by_cases hp : P1 = P2
    · have h1 : Venn.exactChk ⟨l, c⟩ t u = 0 := by rw [Venn.exactChk, if_pos (by rw [← hE, hz]), if_pos (by rw [← hP1, ← hP2, hp])]
      have HEV := Lib.hid (show exactVv ⟨l, c⟩ t u = .tuple #[.int .i64 P1, errV 0] by rw [exactVv, Venn.exactV, if_pos h1, h1, hP1])
      subst hz hp
      clear hP1 hP2 hE h1
      go_enter Tryd.func5, Tryd.ntmps5
      go_wp2_with fail
      refine (ref_Span _ _ _ l c t u _ (HA.out.keep (by (repeat' (first | (with_reducible exact Below.refl _ _) | (with_reducible assumption) | (with_reducible refine Below.next ?_ (by with_reducible assumption)) | (with_reducible refine Below.drew ?_) | (with_reducible refine Below.laid ?_ _) | (with_reducible refine Below.setCell ?_ ?_ _) | (with_reducible refine size_of ?_) | (with_reducible refine Nat.le_succ_of_le ?_) | go_size)))) (HC.out.keep (by (repeat' (first | (with_reducible exact Below.refl _ _) | (with_reducible assumption) | (with_reducible refine Below.next ?_ (by with_reducible assumption)) | (with_reducible refine Below.drew ?_) | (with_reducible refine Below.laid ?_ _) | (with_reducible refine Below.setCell ?_ ?_ _) | (with_reducible refine size_of ?_) | (with_reducible refine Nat.le_succ_of_le ?_) | go_size)))) (HT.out.keep (by (repeat' (first | (with_reducible exact Below.refl _ _) | (with_reducible assumption) | (with_reducible refine Below.next ?_ (by with_reducible assumption)) | (with_reducible refine Below.drew ?_) | (with_reducible refine Below.laid ?_ _) | (with_reducible refine Below.setCell ?_ ?_ _) | (with_reducible refine size_of ?_) | (with_reducible refine Nat.le_succ_of_le ?_) | go_size))))).mono ?_
      rintro e w1 ⟨rfl, hb1⟩
      rw [HRV.out]
      have hq1 : Below w.heap.size w w1 := by (repeat' (first | (with_reducible exact Below.refl _ _) | (with_reducible assumption) | (with_reducible refine Below.next ?_ (by with_reducible assumption)) | (with_reducible refine Below.drew ?_) | (with_reducible refine Below.laid ?_ _) | (with_reducible refine Below.setCell ?_ ?_ _) | (with_reducible refine size_of ?_) | (with_reducible refine Nat.le_succ_of_le ?_) | go_size))
      have hw1 : Below w.heap.size w w1 := hq1
      have BF : Blk w1 w.heap.size 25 #[.slice A l.length cA, .slice C c.length cC] := (Blk.new w _ _).keep hb1
      obtain ⟨⟨BF0, BF1⟩, _⟩ := BF.cells2
      have BFl := BF.lt
      go_wp2_with fail
      refine (span_Of _ _ _ l c t u _ (HA.out.keep (by (repeat' (first | (with_reducible exact Below.refl _ _) | (with_reducible assumption) | (with_reducible refine Below.next ?_ (by with_reducible assumption)) | (with_reducible refine Below.drew ?_) | (with_reducible refine Below.laid ?_ _) | (with_reducible refine Below.setCell ?_ ?_ _) | (with_reducible refine size_of ?_) | (with_reducible refine Nat.le_succ_of_le ?_) | go_size)))) (HC.out.keep (by (repeat' (first | (with_reducible exact Below.refl _ _) | (with_reducible assumption) | (with_reducible refine Below.next ?_ (by with_reducible assumption)) | (with_reducible refine Below.drew ?_) | (with_reducible refine Below.laid ?_ _) | (with_reducible refine Below.setCell ?_ ?_ _) | (with_reducible refine size_of ?_) | (with_reducible refine Nat.le_succ_of_le ?_) | go_size)))) (HT.out.keep (by (repeat' (first | (with_reducible exact Below.refl _ _) | (with_reducible assumption) | (with_reducible refine Below.next ?_ (by with_reducible assumption)) | (with_reducible refine Below.drew ?_) | (with_reducible refine Below.laid ?_ _) | (with_reducible refine Below.setCell ?_ ?_ _) | (with_reducible refine size_of ?_) | (with_reducible refine Nat.le_succ_of_le ?_) | go_size)))) (HK.out.keep (by (repeat' (first | (with_reducible exact Below.refl _ _) | (with_reducible assumption) | (with_reducible refine Below.next ?_ (by with_reducible assumption)) | (with_reducible refine Below.drew ?_) | (with_reducible refine Below.laid ?_ _) | (with_reducible refine Below.setCell ?_ ?_ _) | (with_reducible refine size_of ?_) | (with_reducible refine Nat.le_succ_of_le ?_) | go_size))))).mono ?_
      rintro e w2 ⟨rfl, hb2⟩
      rw [HSV.out]
      have hq2 : Below w1.heap.size w1 w2 := by (repeat' (first | (with_reducible exact Below.refl _ _) | (with_reducible assumption) | (with_reducible refine Below.next ?_ (by with_reducible assumption)) | (with_reducible refine Below.drew ?_) | (with_reducible refine Below.laid ?_ _) | (with_reducible refine Below.setCell ?_ ?_ _) | (with_reducible refine size_of ?_) | (with_reducible refine Nat.le_succ_of_le ?_) | go_size))
      have hw2 : Below w.heap.size w w2 := Below.next hw1 hq2
      replace BF := BF.keep hq2
      try clear BF0 BF1 BFl
      obtain ⟨⟨BF0, BF1⟩, _⟩ := BF.cells2
      have BFl := BF.lt
      have BW : Blk w2 w1.heap.size 49 #[.int .i64 P1, .int .i64 P1] := (Blk.new w1 _ _).keep hb2
      obtain ⟨⟨BW0, BW1⟩, _⟩ := BW.cells2
      have BWl := BW.lt
      go_wp2_with fail
      refine (vennsame_Error _ _ _ (HET.out.keep (by (repeat' (first | (with_reducible exact Below.refl _ _) | (with_reducible assumption) | (with_reducible refine Below.next ?_ (by with_reducible assumption)) | (with_reducible refine Below.drew ?_) | (with_reducible refine Below.laid ?_ _) | (with_reducible refine Below.setCell ?_ ?_ _) | (with_reducible refine size_of ?_) | (with_reducible refine Nat.le_succ_of_le ?_) | go_size))))).mono ?_
      rintro e w3 ⟨rfl, hb3⟩
      have hq3 : Below w2.heap.size w2 w3 := by (repeat' (first | (with_reducible exact Below.refl _ _) | (with_reducible assumption) | (with_reducible refine Below.next ?_ (by with_reducible assumption)) | (with_reducible refine Below.drew ?_) | (with_reducible refine Below.laid ?_ _) | (with_reducible refine Below.setCell ?_ ?_ _) | (with_reducible refine size_of ?_) | (with_reducible refine Nat.le_succ_of_le ?_) | go_size))
      have hw3 : Below w.heap.size w w3 := Below.next hw2 hq3
      replace BF := BF.keep hq3
      try clear BF0 BF1 BFl
      obtain ⟨⟨BF0, BF1⟩, _⟩ := BF.cells2
      have BFl := BF.lt
      replace BW := BW.keep hq3
      try clear BW0 BW1 BWl
      obtain ⟨⟨BW0, BW1⟩, _⟩ := BW.cells2
      have BWl := BW.lt
      have BX : Blk w3 w2.heap.size 49 #[.int .i64 P1, .int .i64 P1] := (Blk.new w2 _ _).keep hb3
      obtain ⟨⟨BX0, BX1⟩, _⟩ := BX.cells2
      have BXl := BX.lt
      go_wp2_with fail
      refine (span_Exact _ _ _ l c t u _ (HA.out.keep (by (repeat' (first | (with_reducible exact Below.refl _ _) | (with_reducible assumption) | (with_reducible refine Below.next ?_ (by with_reducible assumption)) | (with_reducible refine Below.drew ?_) | (with_reducible refine Below.laid ?_ _) | (with_reducible refine Below.setCell ?_ ?_ _) | (with_reducible refine size_of ?_) | (with_reducible refine Nat.le_succ_of_le ?_) | go_size)))) (HC.out.keep (by (repeat' (first | (with_reducible exact Below.refl _ _) | (with_reducible assumption) | (with_reducible refine Below.next ?_ (by with_reducible assumption)) | (with_reducible refine Below.drew ?_) | (with_reducible refine Below.laid ?_ _) | (with_reducible refine Below.setCell ?_ ?_ _) | (with_reducible refine size_of ?_) | (with_reducible refine Nat.le_succ_of_le ?_) | go_size)))) (HT.out.keep (by (repeat' (first | (with_reducible exact Below.refl _ _) | (with_reducible assumption) | (with_reducible refine Below.next ?_ (by with_reducible assumption)) | (with_reducible refine Below.drew ?_) | (with_reducible refine Below.laid ?_ _) | (with_reducible refine Below.setCell ?_ ?_ _) | (with_reducible refine size_of ?_) | (with_reducible refine Nat.le_succ_of_le ?_) | go_size)))) (HK.out.keep (by (repeat' (first | (with_reducible exact Below.refl _ _) | (with_reducible assumption) | (with_reducible refine Below.next ?_ (by with_reducible assumption)) | (with_reducible refine Below.drew ?_) | (with_reducible refine Below.laid ?_ _) | (with_reducible refine Below.setCell ?_ ?_ _) | (with_reducible refine size_of ?_) | (with_reducible refine Nat.le_succ_of_le ?_) | go_size))))).mono ?_
      rintro e w4 ⟨rfl, hb4⟩
      rw [HEV.out]
      have hq4 : Below w3.heap.size w3 w4 := by (repeat' (first | (with_reducible exact Below.refl _ _) | (with_reducible assumption) | (with_reducible refine Below.next ?_ (by with_reducible assumption)) | (with_reducible refine Below.drew ?_) | (with_reducible refine Below.laid ?_ _) | (with_reducible refine Below.setCell ?_ ?_ _) | (with_reducible refine size_of ?_) | (with_reducible refine Nat.le_succ_of_le ?_) | go_size))
      have hw4 : Below w.heap.size w w4 := Below.next hw3 hq4
      replace BF := BF.keep hq4
      try clear BF0 BF1 BFl
      obtain ⟨⟨BF0, BF1⟩, _⟩ := BF.cells2
      have BFl := BF.lt
      replace BW := BW.keep hq4
      try clear BW0 BW1 BWl
      obtain ⟨⟨BW0, BW1⟩, _⟩ := BW.cells2
      have BWl := BW.lt
      go_wp2_with fail
      refine (vennsame_Error _ _ _ (HET.out.keep (by (repeat' (first | (with_reducible exact Below.refl _ _) | (with_reducible assumption) | (with_reducible refine Below.next ?_ (by with_reducible assumption)) | (with_reducible refine Below.drew ?_) | (with_reducible refine Below.laid ?_ _) | (with_reducible refine Below.setCell ?_ ?_ _) | (with_reducible refine size_of ?_) | (with_reducible refine Nat.le_succ_of_le ?_) | go_size))))).mono ?_
      rintro e w5 ⟨rfl, hb5⟩
      have hq5 : Below w4.heap.size w4 w5 := by (repeat' (first | (with_reducible exact Below.refl _ _) | (with_reducible assumption) | (with_reducible refine Below.next ?_ (by with_reducible assumption)) | (with_reducible refine Below.drew ?_) | (with_reducible refine Below.laid ?_ _) | (with_reducible refine Below.setCell ?_ ?_ _) | (with_reducible refine size_of ?_) | (with_reducible refine Nat.le_succ_of_le ?_) | go_size))
      have hw5 : Below w.heap.size w w5 := Below.next hw4 hq5
      replace BF := BF.keep hq5
      try clear BF0 BF1 BFl
      obtain ⟨⟨BF0, BF1⟩, _⟩ := BF.cells2
      have BFl := BF.lt
      replace BW := BW.keep hq5
      try clear BW0 BW1 BWl
      obtain ⟨⟨BW0, BW1⟩, _⟩ := BW.cells2
      have BWl := BW.lt
      go_wp2
      go_ret
      exact ⟨by simp, hw5⟩
    · have h1 : Venn.exactChk ⟨l, c⟩ t u = 8 := by rw [Venn.exactChk, if_pos (by rw [← hE, hz]), if_neg (by rw [← hP1, ← hP2]; exact hp)]
      have HEV := Lib.hid (show exactVv ⟨l, c⟩ t u = .tuple #[.int .i64 0, errV 8] by rw [exactVv, Venn.exactV, if_neg (by rw [h1]; decide), h1])
      have hq : (P1 != P2) = true := by simpa using hp
      subst hz
      clear hP1 hP2 hE h1 hp
      go_enter Tryd.func5, Tryd.ntmps5
      go_wp2_with fail
      refine (ref_Span _ _ _ l c t u _ (HA.out.keep (by (repeat' (first | (with_reducible exact Below.refl _ _) | (with_reducible assumption) | (with_reducible refine Below.next ?_ (by with_reducible assumption)) | (with_reducible refine Below.drew ?_) | (with_reducible refine Below.laid ?_ _) | (with_reducible refine Below.setCell ?_ ?_ _) | (with_reducible refine size_of ?_) | (with_reducible refine Nat.le_succ_of_le ?_) | go_size)))) (HC.out.keep (by (repeat' (first | (with_reducible exact Below.refl _ _) | (with_reducible assumption) | (with_reducible refine Below.next ?_ (by with_reducible assumption)) | (with_reducible refine Below.drew ?_) | (with_reducible refine Below.laid ?_ _) | (with_reducible refine Below.setCell ?_ ?_ _) | (with_reducible refine size_of ?_) | (with_reducible refine Nat.le_succ_of_le ?_) | go_size)))) (HT.out.keep (by (repeat' (first | (with_reducible exact Below.refl _ _) | (with_reducible assumption) | (with_reducible refine Below.next ?_ (by with_reducible assumption)) | (with_reducible refine Below.drew ?_) | (with_reducible refine Below.laid ?_ _) | (with_reducible refine Below.setCell ?_ ?_ _) | (with_reducible refine size_of ?_) | (with_reducible refine Nat.le_succ_of_le ?_) | go_size))))).mono ?_
      rintro e w1 ⟨rfl, hb1⟩
      rw [HRV.out]
      have hq1 : Below w.heap.size w w1 := by (repeat' (first | (with_reducible exact Below.refl _ _) | (with_reducible assumption) | (with_reducible refine Below.next ?_ (by with_reducible assumption)) | (with_reducible refine Below.drew ?_) | (with_reducible refine Below.laid ?_ _) | (with_reducible refine Below.setCell ?_ ?_ _) | (with_reducible refine size_of ?_) | (with_reducible refine Nat.le_succ_of_le ?_) | go_size))
      have hw1 : Below w.heap.size w w1 := hq1
      have BF : Blk w1 w.heap.size 25 #[.slice A l.length cA, .slice C c.length cC] := (Blk.new w _ _).keep hb1
      obtain ⟨⟨BF0, BF1⟩, _⟩ := BF.cells2
      have BFl := BF.lt
      go_wp2_with fail
      refine (span_Of _ _ _ l c t u _ (HA.out.keep (by (repeat' (first | (with_reducible exact Below.refl _ _) | (with_reducible assumption) | (with_reducible refine Below.next ?_ (by with_reducible assumption)) | (with_reducible refine Below.drew ?_) | (with_reducible refine Below.laid ?_ _) | (with_reducible refine Below.setCell ?_ ?_ _) | (with_reducible refine size_of ?_) | (with_reducible refine Nat.le_succ_of_le ?_) | go_size)))) (HC.out.keep (by (repeat' (first | (with_reducible exact Below.refl _ _) | (with_reducible assumption) | (with_reducible refine Below.next ?_ (by with_reducible assumption)) | (with_reducible refine Below.drew ?_) | (with_reducible refine Below.laid ?_ _) | (with_reducible refine Below.setCell ?_ ?_ _) | (with_reducible refine size_of ?_) | (with_reducible refine Nat.le_succ_of_le ?_) | go_size)))) (HT.out.keep (by (repeat' (first | (with_reducible exact Below.refl _ _) | (with_reducible assumption) | (with_reducible refine Below.next ?_ (by with_reducible assumption)) | (with_reducible refine Below.drew ?_) | (with_reducible refine Below.laid ?_ _) | (with_reducible refine Below.setCell ?_ ?_ _) | (with_reducible refine size_of ?_) | (with_reducible refine Nat.le_succ_of_le ?_) | go_size)))) (HK.out.keep (by (repeat' (first | (with_reducible exact Below.refl _ _) | (with_reducible assumption) | (with_reducible refine Below.next ?_ (by with_reducible assumption)) | (with_reducible refine Below.drew ?_) | (with_reducible refine Below.laid ?_ _) | (with_reducible refine Below.setCell ?_ ?_ _) | (with_reducible refine size_of ?_) | (with_reducible refine Nat.le_succ_of_le ?_) | go_size))))).mono ?_
      rintro e w2 ⟨rfl, hb2⟩
      rw [HSV.out]
      have hq2 : Below w1.heap.size w1 w2 := by (repeat' (first | (with_reducible exact Below.refl _ _) | (with_reducible assumption) | (with_reducible refine Below.next ?_ (by with_reducible assumption)) | (with_reducible refine Below.drew ?_) | (with_reducible refine Below.laid ?_ _) | (with_reducible refine Below.setCell ?_ ?_ _) | (with_reducible refine size_of ?_) | (with_reducible refine Nat.le_succ_of_le ?_) | go_size))
      have hw2 : Below w.heap.size w w2 := Below.next hw1 hq2
      replace BF := BF.keep hq2
      try clear BF0 BF1 BFl
      obtain ⟨⟨BF0, BF1⟩, _⟩ := BF.cells2
      have BFl := BF.lt
      have BW : Blk w2 w1.heap.size 49 #[.int .i64 P1, .int .i64 P2] := (Blk.new w1 _ _).keep hb2
      obtain ⟨⟨BW0, BW1⟩, _⟩ := BW.cells2
      have BWl := BW.lt
      go_wp2_with fail
      refine (vennsame_Error _ _ _ (HET.out.keep (by (repeat' (first | (with_reducible exact Below.refl _ _) | (with_reducible assumption) | (with_reducible refine Below.next ?_ (by with_reducible assumption)) | (with_reducible refine Below.drew ?_) | (with_reducible refine Below.laid ?_ _) | (with_reducible refine Below.setCell ?_ ?_ _) | (with_reducible refine size_of ?_) | (with_reducible refine Nat.le_succ_of_le ?_) | go_size))))).mono ?_
      rintro e w3 ⟨rfl, hb3⟩
      have hq3 : Below w2.heap.size w2 w3 := by (repeat' (first | (with_reducible exact Below.refl _ _) | (with_reducible assumption) | (with_reducible refine Below.next ?_ (by with_reducible assumption)) | (with_reducible refine Below.drew ?_) | (with_reducible refine Below.laid ?_ _) | (with_reducible refine Below.setCell ?_ ?_ _) | (with_reducible refine size_of ?_) | (with_reducible refine Nat.le_succ_of_le ?_) | go_size))
      have hw3 : Below w.heap.size w w3 := Below.next hw2 hq3
      replace BF := BF.keep hq3
      try clear BF0 BF1 BFl
      obtain ⟨⟨BF0, BF1⟩, _⟩ := BF.cells2
      have BFl := BF.lt
      replace BW := BW.keep hq3
      try clear BW0 BW1 BWl
      obtain ⟨⟨BW0, BW1⟩, _⟩ := BW.cells2
      have BWl := BW.lt
      have BX : Blk w3 w2.heap.size 49 #[.int .i64 P1, .int .i64 P2] := (Blk.new w2 _ _).keep hb3
      obtain ⟨⟨BX0, BX1⟩, _⟩ := BX.cells2
      have BXl := BX.lt
      go_wp2_with fail
      refine (span_Exact _ _ _ l c t u _ (HA.out.keep (by (repeat' (first | (with_reducible exact Below.refl _ _) | (with_reducible assumption) | (with_reducible refine Below.next ?_ (by with_reducible assumption)) | (with_reducible refine Below.drew ?_) | (with_reducible refine Below.laid ?_ _) | (with_reducible refine Below.setCell ?_ ?_ _) | (with_reducible refine size_of ?_) | (with_reducible refine Nat.le_succ_of_le ?_) | go_size)))) (HC.out.keep (by (repeat' (first | (with_reducible exact Below.refl _ _) | (with_reducible assumption) | (with_reducible refine Below.next ?_ (by with_reducible assumption)) | (with_reducible refine Below.drew ?_) | (with_reducible refine Below.laid ?_ _) | (with_reducible refine Below.setCell ?_ ?_ _) | (with_reducible refine size_of ?_) | (with_reducible refine Nat.le_succ_of_le ?_) | go_size)))) (HT.out.keep (by (repeat' (first | (with_reducible exact Below.refl _ _) | (with_reducible assumption) | (with_reducible refine Below.next ?_ (by with_reducible assumption)) | (with_reducible refine Below.drew ?_) | (with_reducible refine Below.laid ?_ _) | (with_reducible refine Below.setCell ?_ ?_ _) | (with_reducible refine size_of ?_) | (with_reducible refine Nat.le_succ_of_le ?_) | go_size)))) (HK.out.keep (by (repeat' (first | (with_reducible exact Below.refl _ _) | (with_reducible assumption) | (with_reducible refine Below.next ?_ (by with_reducible assumption)) | (with_reducible refine Below.drew ?_) | (with_reducible refine Below.laid ?_ _) | (with_reducible refine Below.setCell ?_ ?_ _) | (with_reducible refine size_of ?_) | (with_reducible refine Nat.le_succ_of_le ?_) | go_size))))).mono ?_
      rintro e w4 ⟨rfl, hb4⟩
      rw [HEV.out]
      have hq4 : Below w3.heap.size w3 w4 := by (repeat' (first | (with_reducible exact Below.refl _ _) | (with_reducible assumption) | (with_reducible refine Below.next ?_ (by with_reducible assumption)) | (with_reducible refine Below.drew ?_) | (with_reducible refine Below.laid ?_ _) | (with_reducible refine Below.setCell ?_ ?_ _) | (with_reducible refine size_of ?_) | (with_reducible refine Nat.le_succ_of_le ?_) | go_size))
      have hw4 : Below w.heap.size w w4 := Below.next hw3 hq4
      replace BF := BF.keep hq4
      try clear BF0 BF1 BFl
      obtain ⟨⟨BF0, BF1⟩, _⟩ := BF.cells2
      have BFl := BF.lt
      replace BW := BW.keep hq4
      try clear BW0 BW1 BWl
      obtain ⟨⟨BW0, BW1⟩, _⟩ := BW.cells2
      have BWl := BW.lt
      go_wp2_with fail
      refine (vennsame_Error _ _ _ (HET.out.keep (by (repeat' (first | (with_reducible exact Below.refl _ _) | (with_reducible assumption) | (with_reducible refine Below.next ?_ (by with_reducible assumption)) | (with_reducible refine Below.drew ?_) | (with_reducible refine Below.laid ?_ _) | (with_reducible refine Below.setCell ?_ ?_ _) | (with_reducible refine size_of ?_) | (with_reducible refine Nat.le_succ_of_le ?_) | go_size))))).mono ?_
      rintro e w5 ⟨rfl, hb5⟩
      have hq5 : Below w4.heap.size w4 w5 := by (repeat' (first | (with_reducible exact Below.refl _ _) | (with_reducible assumption) | (with_reducible refine Below.next ?_ (by with_reducible assumption)) | (with_reducible refine Below.drew ?_) | (with_reducible refine Below.laid ?_ _) | (with_reducible refine Below.setCell ?_ ?_ _) | (with_reducible refine size_of ?_) | (with_reducible refine Nat.le_succ_of_le ?_) | go_size))
      have hw5 : Below w.heap.size w w5 := Below.next hw4 hq5
      replace BF := BF.keep hq5
      try clear BF0 BF1 BFl
      obtain ⟨⟨BF0, BF1⟩, _⟩ := BF.cells2
      have BFl := BF.lt
      replace BW := BW.keep hq5
      try clear BW0 BW1 BWl
      obtain ⟨⟨BW0, BW1⟩, _⟩ := BW.cells2
      have BWl := BW.lt
      go_wp2
      go_ret
      exact ⟨by simp, hw5⟩
  · have h1 : Venn.exactChk ⟨l, c⟩ t u = E := by rw [Venn.exactChk, if_neg (by rw [← hE]; exact hz), hE]
    have HEV := Lib.hid (show exactVv ⟨l, c⟩ t u = .tuple #[.int .i64 0, errV E] by rw [exactVv, Venn.exactV, if_neg (by rw [h1]; exact hz), h1])
    have hq : (E == 0) = false := by simpa using hz
    have hq2 : (E != 0) = true := by simpa using hz
    clear hP1 hP2 hE h1 hz
    go_enter Tryd.func5, Tryd.ntmps5
    go_wp2_with fail
    refine (ref_Span _ _ _ l c t u _ (HA.out.keep (by (repeat' (first | (with_reducible exact Below.refl _ _) | (with_reducible assumption) | (with_reducible refine Below.next ?_ (by with_reducible assumption)) | (with_reducible refine Below.drew ?_) | (with_reducible refine Below.laid ?_ _) | (with_reducible refine Below.setCell ?_ ?_ _) | (with_reducible refine size_of ?_) | (with_reducible refine Nat.le_succ_of_le ?_) | go_size)))) (HC.out.keep (by (repeat' (first | (with_reducible exact Below.refl _ _) | (with_reducible assumption) | (with_reducible refine Below.next ?_ (by with_reducible assumption)) | (with_reducible refine Below.drew ?_) | (with_reducible refine Below.laid ?_ _) | (with_reducible refine Below.setCell ?_ ?_ _) | (with_reducible refine size_of ?_) | (with_reducible refine Nat.le_succ_of_le ?_) | go_size)))) (HT.out.keep (by (repeat' (first | (with_reducible exact Below.refl _ _) | (with_reducible assumption) | (with_reducible refine Below.next ?_ (by with_reducible assumption)) | (with_reducible refine Below.drew ?_) | (with_reducible refine Below.laid ?_ _) | (with_reducible refine Below.setCell ?_ ?_ _) | (with_reducible refine size_of ?_) | (with_reducible refine Nat.le_succ_of_le ?_) | go_size))))).mono ?_
    rintro e w1 ⟨rfl, hb1⟩
    rw [HRV.out]
    have hq1 : Below w.heap.size w w1 := by (repeat' (first | (with_reducible exact Below.refl _ _) | (with_reducible assumption) | (with_reducible refine Below.next ?_ (by with_reducible assumption)) | (with_reducible refine Below.drew ?_) | (with_reducible refine Below.laid ?_ _) | (with_reducible refine Below.setCell ?_ ?_ _) | (with_reducible refine size_of ?_) | (with_reducible refine Nat.le_succ_of_le ?_) | go_size))
    have hw1 : Below w.heap.size w w1 := hq1
    have BF : Blk w1 w.heap.size 25 #[.slice A l.length cA, .slice C c.length cC] := (Blk.new w _ _).keep hb1
    obtain ⟨⟨BF0, BF1⟩, _⟩ := BF.cells2
    have BFl := BF.lt
    go_wp2_with fail
    refine (span_Of _ _ _ l c t u _ (HA.out.keep (by (repeat' (first | (with_reducible exact Below.refl _ _) | (with_reducible assumption) | (with_reducible refine Below.next ?_ (by with_reducible assumption)) | (with_reducible refine Below.drew ?_) | (with_reducible refine Below.laid ?_ _) | (with_reducible refine Below.setCell ?_ ?_ _) | (with_reducible refine size_of ?_) | (with_reducible refine Nat.le_succ_of_le ?_) | go_size)))) (HC.out.keep (by (repeat' (first | (with_reducible exact Below.refl _ _) | (with_reducible assumption) | (with_reducible refine Below.next ?_ (by with_reducible assumption)) | (with_reducible refine Below.drew ?_) | (with_reducible refine Below.laid ?_ _) | (with_reducible refine Below.setCell ?_ ?_ _) | (with_reducible refine size_of ?_) | (with_reducible refine Nat.le_succ_of_le ?_) | go_size)))) (HT.out.keep (by (repeat' (first | (with_reducible exact Below.refl _ _) | (with_reducible assumption) | (with_reducible refine Below.next ?_ (by with_reducible assumption)) | (with_reducible refine Below.drew ?_) | (with_reducible refine Below.laid ?_ _) | (with_reducible refine Below.setCell ?_ ?_ _) | (with_reducible refine size_of ?_) | (with_reducible refine Nat.le_succ_of_le ?_) | go_size)))) (HK.out.keep (by (repeat' (first | (with_reducible exact Below.refl _ _) | (with_reducible assumption) | (with_reducible refine Below.next ?_ (by with_reducible assumption)) | (with_reducible refine Below.drew ?_) | (with_reducible refine Below.laid ?_ _) | (with_reducible refine Below.setCell ?_ ?_ _) | (with_reducible refine size_of ?_) | (with_reducible refine Nat.le_succ_of_le ?_) | go_size))))).mono ?_
    rintro e w2 ⟨rfl, hb2⟩
    rw [HSV.out]
    have hq2 : Below w1.heap.size w1 w2 := by (repeat' (first | (with_reducible exact Below.refl _ _) | (with_reducible assumption) | (with_reducible refine Below.next ?_ (by with_reducible assumption)) | (with_reducible refine Below.drew ?_) | (with_reducible refine Below.laid ?_ _) | (with_reducible refine Below.setCell ?_ ?_ _) | (with_reducible refine size_of ?_) | (with_reducible refine Nat.le_succ_of_le ?_) | go_size))
    have hw2 : Below w.heap.size w w2 := Below.next hw1 hq2
    replace BF := BF.keep hq2
    try clear BF0 BF1 BFl
    obtain ⟨⟨BF0, BF1⟩, _⟩ := BF.cells2
    have BFl := BF.lt
    have BW : Blk w2 w1.heap.size 49 #[.int .i64 P1, .int .i64 P2] := (Blk.new w1 _ _).keep hb2
    obtain ⟨⟨BW0, BW1⟩, _⟩ := BW.cells2
    have BWl := BW.lt
    go_wp2_with fail
    refine (vennsame_Error _ _ _ (HET.out.keep (by (repeat' (first | (with_reducible exact Below.refl _ _) | (with_reducible assumption) | (with_reducible refine Below.next ?_ (by with_reducible assumption)) | (with_reducible refine Below.drew ?_) | (with_reducible refine Below.laid ?_ _) | (with_reducible refine Below.setCell ?_ ?_ _) | (with_reducible refine size_of ?_) | (with_reducible refine Nat.le_succ_of_le ?_) | go_size))))).mono ?_
    rintro e w3 ⟨rfl, hb3⟩
    have hq3 : Below w2.heap.size w2 w3 := by (repeat' (first | (with_reducible exact Below.refl _ _) | (with_reducible assumption) | (with_reducible refine Below.next ?_ (by with_reducible assumption)) | (with_reducible refine Below.drew ?_) | (with_reducible refine Below.laid ?_ _) | (with_reducible refine Below.setCell ?_ ?_ _) | (with_reducible refine size_of ?_) | (with_reducible refine Nat.le_succ_of_le ?_) | go_size))
    have hw3 : Below w.heap.size w w3 := Below.next hw2 hq3
    replace BF := BF.keep hq3
    try clear BF0 BF1 BFl
    obtain ⟨⟨BF0, BF1⟩, _⟩ := BF.cells2
    have BFl := BF.lt
    replace BW := BW.keep hq3
    try clear BW0 BW1 BWl
    obtain ⟨⟨BW0, BW1⟩, _⟩ := BW.cells2
    have BWl := BW.lt
    have BX : Blk w3 w2.heap.size 49 #[.int .i64 P1, .int .i64 P2] := (Blk.new w2 _ _).keep hb3
    obtain ⟨⟨BX0, BX1⟩, _⟩ := BX.cells2
    have BXl := BX.lt
    go_wp2_with fail
    refine (span_Exact _ _ _ l c t u _ (HA.out.keep (by (repeat' (first | (with_reducible exact Below.refl _ _) | (with_reducible assumption) | (with_reducible refine Below.next ?_ (by with_reducible assumption)) | (with_reducible refine Below.drew ?_) | (with_reducible refine Below.laid ?_ _) | (with_reducible refine Below.setCell ?_ ?_ _) | (with_reducible refine size_of ?_) | (with_reducible refine Nat.le_succ_of_le ?_) | go_size)))) (HC.out.keep (by (repeat' (first | (with_reducible exact Below.refl _ _) | (with_reducible assumption) | (with_reducible refine Below.next ?_ (by with_reducible assumption)) | (with_reducible refine Below.drew ?_) | (with_reducible refine Below.laid ?_ _) | (with_reducible refine Below.setCell ?_ ?_ _) | (with_reducible refine size_of ?_) | (with_reducible refine Nat.le_succ_of_le ?_) | go_size)))) (HT.out.keep (by (repeat' (first | (with_reducible exact Below.refl _ _) | (with_reducible assumption) | (with_reducible refine Below.next ?_ (by with_reducible assumption)) | (with_reducible refine Below.drew ?_) | (with_reducible refine Below.laid ?_ _) | (with_reducible refine Below.setCell ?_ ?_ _) | (with_reducible refine size_of ?_) | (with_reducible refine Nat.le_succ_of_le ?_) | go_size)))) (HK.out.keep (by (repeat' (first | (with_reducible exact Below.refl _ _) | (with_reducible assumption) | (with_reducible refine Below.next ?_ (by with_reducible assumption)) | (with_reducible refine Below.drew ?_) | (with_reducible refine Below.laid ?_ _) | (with_reducible refine Below.setCell ?_ ?_ _) | (with_reducible refine size_of ?_) | (with_reducible refine Nat.le_succ_of_le ?_) | go_size))))).mono ?_
    rintro e w4 ⟨rfl, hb4⟩
    rw [HEV.out]
    have hq4 : Below w3.heap.size w3 w4 := by (repeat' (first | (with_reducible exact Below.refl _ _) | (with_reducible assumption) | (with_reducible refine Below.next ?_ (by with_reducible assumption)) | (with_reducible refine Below.drew ?_) | (with_reducible refine Below.laid ?_ _) | (with_reducible refine Below.setCell ?_ ?_ _) | (with_reducible refine size_of ?_) | (with_reducible refine Nat.le_succ_of_le ?_) | go_size))
    have hw4 : Below w.heap.size w w4 := Below.next hw3 hq4
    replace BF := BF.keep hq4
    try clear BF0 BF1 BFl
    obtain ⟨⟨BF0, BF1⟩, _⟩ := BF.cells2
    have BFl := BF.lt
    replace BW := BW.keep hq4
    try clear BW0 BW1 BWl
    obtain ⟨⟨BW0, BW1⟩, _⟩ := BW.cells2
    have BWl := BW.lt
    go_wp2_with fail
    refine (vennsame_Error _ _ _ (HET.out.keep (by (repeat' (first | (with_reducible exact Below.refl _ _) | (with_reducible assumption) | (with_reducible refine Below.next ?_ (by with_reducible assumption)) | (with_reducible refine Below.drew ?_) | (with_reducible refine Below.laid ?_ _) | (with_reducible refine Below.setCell ?_ ?_ _) | (with_reducible refine size_of ?_) | (with_reducible refine Nat.le_succ_of_le ?_) | go_size))))).mono ?_
    rintro e w5 ⟨rfl, hb5⟩
    have hq5 : Below w4.heap.size w4 w5 := by (repeat' (first | (with_reducible exact Below.refl _ _) | (with_reducible assumption) | (with_reducible refine Below.next ?_ (by with_reducible assumption)) | (with_reducible refine Below.drew ?_) | (with_reducible refine Below.laid ?_ _) | (with_reducible refine Below.setCell ?_ ?_ _) | (with_reducible refine size_of ?_) | (with_reducible refine Nat.le_succ_of_le ?_) | go_size))
    have hw5 : Below w.heap.size w w5 := Below.next hw4 hq5
    replace BF := BF.keep hq5
    try clear BF0 BF1 BFl
    obtain ⟨⟨BF0, BF1⟩, _⟩ := BF.cells2
    have BFl := BF.lt
    replace BW := BW.keep hq5
    try clear BW0 BW1 BWl
    obtain ⟨⟨BW0, BW1⟩, _⟩ := BW.cells2
    have BWl := BW.lt
    go_wp2
    go_ret
    exact ⟨by simp, hw5⟩
end Go.Proofs.YtcecbpbpknphjaaDoor
