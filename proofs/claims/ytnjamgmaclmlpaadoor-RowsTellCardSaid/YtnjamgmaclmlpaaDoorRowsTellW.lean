/-
  THE WALK of vennlaw1.RowsTell.
-/
import Derived.Test.YtnjamgmaclmlpaaDoorRefRow
import Derived.Test.YtnjamgmaclmlpaaDoorRefAtom
import Derived.Test.YtnjamgmaclmlpaaDoorRefRows
import Derived.Test.YtnjamgmaclmlpaaDoorRefFields
import Derived.Test.YtnjamgmaclmlpaaDoorRowOf
import Derived.Test.YtnjamgmaclmlpaaDoorRowsApp
import Derived.Test.YtnjamgmaclmlpaaDoorEql
import Derived.Test.YtnjamgmaclmlpaaDoorLawF
namespace Go.Proofs.YtnjamgmaclmlpaaDoor
open Go.RowKit

theorem eql_eight (d : Nat) (m0 m1 m2 m3 m4 m5 m6 m7 : Int) (W : World) : (Op.equalIn (d + 2) 23 (.agg #[.int .i64 m0, .int .i64 m1, .int .i64 m2, .int .i64 m3, .int .i64 m4, .int .i64 m5, .int .i64 m6, .int .i64 m7]) (.agg #[.int .i64 m0, .int .i64 m1, .int .i64 m2, .int .i64 m3, .int .i64 m4, .int .i64 m5, .int .i64 m6, .int .i64 m7])).run Tryd.prog W = .ok true W := by
  obtain ⟨i, hi⟩ := info_int
  rw [run_equalIn_array W (d + 1) _ _ Tryd.underlying23 hi, eqItems_same d _ _ W (List.range 8)]
  intro j hj
  rw [cells_int]
  have hj8 := List.mem_range.1 hj
  rcases (by omega : j = 0 ∨ j = 1 ∨ j = 2 ∨ j = 3 ∨ j = 4 ∨ j = 5 ∨ j = 6 ∨ j = 7) with rfl | rfl | rfl | rfl | rfl | rfl | rfl | rfl
  · exact ⟨m0, by kernel_rfl⟩
  · exact ⟨m1, by kernel_rfl⟩
  · exact ⟨m2, by kernel_rfl⟩
  · exact ⟨m3, by kernel_rfl⟩
  · exact ⟨m4, by kernel_rfl⟩
  · exact ⟨m5, by kernel_rfl⟩
  · exact ⟨m6, by kernel_rfl⟩
  · exact ⟨m7, by kernel_rfl⟩
theorem Blk.set9' {w : World} {g : Nat} {t : TypeId} {y0 y1 y2 y3 y4 y5 y6 y7 y8 : Value} (h : Blk w g t #[y0, y1, y2, y3, y4, y5, y6, y7, y8]) (x0 x1 x2 x3 x4 x5 x6 x7 x8 : Value) :
    Blk (((((((((w.setCell ⟨g, 0, none⟩ x0).setCell ⟨g, 1, none⟩ x1).setCell ⟨g, 2, none⟩ x2).setCell ⟨g, 3, none⟩ x3).setCell ⟨g, 4, none⟩ x4).setCell ⟨g, 5, none⟩ x5).setCell ⟨g, 6, none⟩ x6).setCell ⟨g, 7, none⟩ x7).setCell ⟨g, 8, none⟩ x8) g t #[x0, x1, x2, x3, x4, x5, x6, x7, x8] := by
  have := ((((((((h.set_ 0 x0).set_ 1 x1).set_ 2 x2).set_ 3 x3).set_ 4 x4).set_ 5 x5).set_ 6 x6).set_ 7 x7).set_ 8 x8
  have e : ((((((((#[y0, y1, y2, y3, y4, y5, y6, y7, y8].setIfInBounds 0 x0).setIfInBounds 1 x1).setIfInBounds 2 x2).setIfInBounds 3 x3).setIfInBounds 4 x4).setIfInBounds 5 x5).setIfInBounds 6 x6).setIfInBounds 7 x7).setIfInBounds 8 x8 = #[x0, x1, x2, x3, x4, x5, x6, x7, x8] := by simp
  rw [e] at this
  exact this
set_option maxHeartbeats 4000000 in
set_option maxRecDepth 100000 in
theorem rowsTell_a (what n : Int) (sv tv rv : Value) (s t : List Int) (l : List (List Int)) (holds : Bool) (n0 n1 n2 n3 n4 n5 n6 n7 : Int) (w : World) (hs : IsInts w sv s) (ht : IsInts w tv t) (hl : IsRows w rv l) (HET : EtOk w) (hk : KindsOk w) (hc : Venn.atomChk ⟨what, s, t, n⟩ = 0) :
    Calls Tryd.prog 9 #[.agg #[.int .i64 what, sv, tv, .int .i64 n], .bool holds, rv, .agg #[.int .i64 n0, .int .i64 n1, .int .i64 n2, .int .i64 n3, .int .i64 n4, .int .i64 n5, .int .i64 n6, .int .i64 n7]] w (Keeps (.bool true) w) := by
  obtain ⟨sA, sc, rfl, hs'⟩ := hs
  obtain ⟨tA, tc, rfl, ht'⟩ := ht
  obtain ⟨rA, rc, rfl, hl'⟩ := hl
  have HS := Lib.hid (show IsInts w (.slice sA s.length sc) s from ⟨sA, sc, rfl, hs'⟩)
  have HT := Lib.hid (show IsInts w (.slice tA t.length tc) t from ⟨tA, tc, rfl, ht'⟩)
  have HL := Lib.hid (show IsRows w (.slice rA l.length rc) l from ⟨rA, rc, rfl, hl'⟩)
  clear hs' ht' hl'
  have HC := Lib.hid hc
  obtain ⟨y0, hy0⟩ : ∃ x, x = Venn.rowT ⟨what, s, t, n⟩ holds 0 := ⟨_, rfl⟩
  obtain ⟨y1, hy1⟩ : ∃ x, x = Venn.rowT ⟨what, s, t, n⟩ holds 1 := ⟨_, rfl⟩
  obtain ⟨y2, hy2⟩ : ∃ x, x = Venn.rowT ⟨what, s, t, n⟩ holds 2 := ⟨_, rfl⟩
  obtain ⟨y3, hy3⟩ : ∃ x, x = Venn.rowT ⟨what, s, t, n⟩ holds 3 := ⟨_, rfl⟩
  obtain ⟨y4, hy4⟩ : ∃ x, x = Venn.rowT ⟨what, s, t, n⟩ holds 4 := ⟨_, rfl⟩
  obtain ⟨y5, hy5⟩ : ∃ x, x = Venn.rowT ⟨what, s, t, n⟩ holds 5 := ⟨_, rfl⟩
  obtain ⟨y6, hy6⟩ : ∃ x, x = Venn.rowT ⟨what, s, t, n⟩ holds 6 := ⟨_, rfl⟩
  obtain ⟨y7, hy7⟩ : ∃ x, x = Venn.rowT ⟨what, s, t, n⟩ holds 7 := ⟨_, rfl⟩
  obtain ⟨y8, hy8⟩ : ∃ x, x = Venn.rowM ⟨what, s, t, n⟩ holds := ⟨_, rfl⟩
  have HR := Lib.hid (show rowV ⟨what, s, t, n⟩ holds = .agg #[.int .i64 y0, .int .i64 y1, .int .i64 y2, .int .i64 y3, .int .i64 y4, .int .i64 y5, .int .i64 y6, .int .i64 y7, .int .i64 y8] by rw [rowV, hy0, hy1, hy2, hy3, hy4, hy5, hy6, hy7, hy8])
  have HO := Lib.hid (show rowOfV ⟨what, s, t, n⟩ holds = .agg #[.int .i64 y0, .int .i64 y1, .int .i64 y2, .int .i64 y3, .int .i64 y4, .int .i64 y5, .int .i64 y6, .int .i64 y7, .int .i64 y8] by rw [rowOfV, if_pos hc, HR.out])
  clear hy0 hy1 hy2 hy3 hy4 hy5 hy6 hy7 hy8 hc
  go_enter Tryd.func9, Tryd.ntmps9
  go_wp2_with fail
  refine (ref_Atom _ _ _ _ s t _ (HS.out.keep (by (repeat' (first | (with_reducible exact Below.refl _ _) | (with_reducible assumption) | (with_reducible refine Below.next ?_ (by with_reducible assumption)) | (with_reducible refine Below.drew ?_) | (with_reducible refine Below.laid ?_ _) | (with_reducible refine Below.setCell ?_ ?_ _) | (with_reducible refine size_of ?_) | (with_reducible refine Nat.le_succ_of_le ?_) | go_size)))) (HT.out.keep (by (repeat' (first | (with_reducible exact Below.refl _ _) | (with_reducible assumption) | (with_reducible refine Below.next ?_ (by with_reducible assumption)) | (with_reducible refine Below.drew ?_) | (with_reducible refine Below.laid ?_ _) | (with_reducible refine Below.setCell ?_ ?_ _) | (with_reducible refine size_of ?_) | (with_reducible refine Nat.le_succ_of_le ?_) | go_size))))).mono ?_
  rintro e w1 ⟨rfl, hb1⟩
  rw [HC.out]
  have BA1 := ((Blk.new w 56 #[.int .i64 what, .slice sA s.length sc, .slice tA t.length tc, .int .i64 n]).alloc _).keep hb1
  have BN1 := (Blk.newAt (w := w.alloc (.cells #[.int .i64 what, .slice sA s.length sc, .slice tA t.length tc, .int .i64 n] 56)) (g := w.heap.size + 1) (by simp) 23 #[.int .i64 n0, .int .i64 n1, .int .i64 n2, .int .i64 n3, .int .i64 n4, .int .i64 n5, .int .i64 n6, .int .i64 n7]).keep hb1
  obtain ⟨a0, a1, a2, a3⟩ := BA1.cells4
  have hl1 := BA1.lt
  have hn1 := BN1.lt
  have hbw1 : Below w.heap.size w w1 := by (repeat' (first | (with_reducible exact Below.refl _ _) | (with_reducible assumption) | (with_reducible refine Below.next ?_ (by with_reducible assumption)) | (with_reducible refine Below.drew ?_) | (with_reducible refine Below.laid ?_ _) | (with_reducible refine Below.setCell ?_ ?_ _) | (with_reducible refine size_of ?_) | (with_reducible refine Nat.le_succ_of_le ?_) | go_size))
  clear hb1
  go_wp2_with fail
  refine (ref_Row _ _ _ _ s t holds _ (HS.out.keep (by (repeat' (first | (with_reducible exact Below.refl _ _) | (with_reducible assumption) | (with_reducible refine Below.next ?_ (by with_reducible assumption)) | (with_reducible refine Below.drew ?_) | (with_reducible refine Below.laid ?_ _) | (with_reducible refine Below.setCell ?_ ?_ _) | (with_reducible refine size_of ?_) | (with_reducible refine Nat.le_succ_of_le ?_) | go_size)))) (HT.out.keep (by (repeat' (first | (with_reducible exact Below.refl _ _) | (with_reducible assumption) | (with_reducible refine Below.next ?_ (by with_reducible assumption)) | (with_reducible refine Below.drew ?_) | (with_reducible refine Below.laid ?_ _) | (with_reducible refine Below.setCell ?_ ?_ _) | (with_reducible refine size_of ?_) | (with_reducible refine Nat.le_succ_of_le ?_) | go_size)))) HC.out).mono ?_
  rintro e w2 ⟨rfl, hb2⟩
  rw [HR.out]
  have BA2 := (BA1.alloc _).keep hb2
  have BN2 := (BN1.alloc _).keep hb2
  have BZ2 := (Blk.new w1 79 zero9).keep hb2
  have hbw2 : Below w.heap.size w w2 := by (repeat' (first | (with_reducible exact Below.refl _ _) | (with_reducible assumption) | (with_reducible refine Below.next ?_ (by with_reducible assumption)) | (with_reducible refine Below.drew ?_) | (with_reducible refine Below.laid ?_ _) | (with_reducible refine Below.setCell ?_ ?_ _) | (with_reducible refine size_of ?_) | (with_reducible refine Nat.le_succ_of_le ?_) | go_size))
  have hgz : w.heap.size + 1 < w1.heap.size := by omega
  clear a0 a1 a2 a3 hb2 BA1 BN1 hl1 hn1
  obtain ⟨⟨g0, g1, g2, g3, g4, g5, g6, g7, g8⟩, e0, e1, e2, e3, e4, e5, e6, e7, e8⟩ := BZ2.cells9
  go_upto_region 5 with (fail)
  have BA3 := BA2.far9 (p := w1.heap.size) (by omega) (.int .i64 y0) (.int .i64 y1) (.int .i64 y2) (.int .i64 y3) (.int .i64 y4) (.int .i64 y5) (.int .i64 y6) (.int .i64 y7) (.int .i64 y8)
  have BN3 := BN2.far9 (p := w1.heap.size) (by omega) (.int .i64 y0) (.int .i64 y1) (.int .i64 y2) (.int .i64 y3) (.int .i64 y4) (.int .i64 y5) (.int .i64 y6) (.int .i64 y7) (.int .i64 y8)
  have BZ3 := BZ2.set9' (.int .i64 y0) (.int .i64 y1) (.int .i64 y2) (.int .i64 y3) (.int .i64 y4) (.int .i64 y5) (.int .i64 y6) (.int .i64 y7) (.int .i64 y8)
  have hbw3 := below_set9 hbw2 (show w.heap.size ≤ w1.heap.size by omega) (.int .i64 y0) (.int .i64 y1) (.int .i64 y2) (.int .i64 y3) (.int .i64 y4) (.int .i64 y5) (.int .i64 y6) (.int .i64 y7) (.int .i64 y8)
  clear g0 g1 g2 g3 g4 g5 g6 g7 g8 e0 e1 e2 e3 e4 e5 e6 e7 e8 BA2 BN2 BZ2
  revert BA3 BN3 BZ3 hbw3
  generalize World.setCell _ _ _ = w3
  intro BA3 BN3 BZ3 hbw3
  obtain ⟨a0, a1, a2, a3⟩ := BA3.cells4
  have hl3 := BA3.lt
  have hz3 := BZ3.lt
  go_wp2_with fail
  refine (rows_Of _ _ _ _ s t holds _ (HS.out.keep (by (repeat' (first | (with_reducible exact Below.refl _ _) | (with_reducible assumption) | (with_reducible refine Below.next ?_ (by with_reducible assumption)) | (with_reducible refine Below.drew ?_) | (with_reducible refine Below.laid ?_ _) | (with_reducible refine Below.setCell ?_ ?_ _) | (with_reducible refine size_of ?_) | (with_reducible refine Nat.le_succ_of_le ?_) | go_size)))) (HT.out.keep (by (repeat' (first | (with_reducible exact Below.refl _ _) | (with_reducible assumption) | (with_reducible refine Below.next ?_ (by with_reducible assumption)) | (with_reducible refine Below.drew ?_) | (with_reducible refine Below.laid ?_ _) | (with_reducible refine Below.setCell ?_ ?_ _) | (with_reducible refine size_of ?_) | (with_reducible refine Nat.le_succ_of_le ?_) | go_size)))) (hk.keep (by (repeat' (first | (with_reducible exact Below.refl _ _) | (with_reducible assumption) | (with_reducible refine Below.next ?_ (by with_reducible assumption)) | (with_reducible refine Below.drew ?_) | (with_reducible refine Below.laid ?_ _) | (with_reducible refine Below.setCell ?_ ?_ _) | (with_reducible refine size_of ?_) | (with_reducible refine Nat.le_succ_of_le ?_) | go_size))))).mono ?_
  rintro e w4 ⟨rfl, hb4⟩
  rw [HO.out, HC.out]
  have BN4 := BN3.keep hb4
  have BZ4 := BZ3.keep hb4
  have hbw4 : Below w.heap.size w w4 := by (repeat' (first | (with_reducible exact Below.refl _ _) | (with_reducible assumption) | (with_reducible refine Below.next ?_ (by with_reducible assumption)) | (with_reducible refine Below.drew ?_) | (with_reducible refine Below.laid ?_ _) | (with_reducible refine Below.setCell ?_ ?_ _) | (with_reducible refine size_of ?_) | (with_reducible refine Nat.le_succ_of_le ?_) | go_size))
  clear a0 a1 a2 a3 hl3 hz3 hb4
  go_wp2_with fail
  refine (vennsame_Error _ _ _ (HET.keep (by (repeat' (first | (with_reducible exact Below.refl _ _) | (with_reducible assumption) | (with_reducible refine Below.next ?_ (by with_reducible assumption)) | (with_reducible refine Below.drew ?_) | (with_reducible refine Below.laid ?_ _) | (with_reducible refine Below.setCell ?_ ?_ _) | (with_reducible refine size_of ?_) | (with_reducible refine Nat.le_succ_of_le ?_) | go_size))))).mono ?_
  rintro e w5 ⟨rfl, hw5⟩
  have BX5 := (Blk.new w4 79 #[.int .i64 y0, .int .i64 y1, .int .i64 y2, .int .i64 y3, .int .i64 y4, .int .i64 y5, .int .i64 y6, .int .i64 y7, .int .i64 y8]).keep hw5
  have BZ5 := (BZ4.alloc _).keep hw5
  have BN5 := (BN4.alloc _).keep hw5
  have hbw5 : Below w.heap.size w w5 := by (repeat' (first | (with_reducible exact Below.refl _ _) | (with_reducible assumption) | (with_reducible refine Below.next ?_ (by with_reducible assumption)) | (with_reducible refine Below.drew ?_) | (with_reducible refine Below.laid ?_ _) | (with_reducible refine Below.setCell ?_ ?_ _) | (with_reducible refine size_of ?_) | (with_reducible refine Nat.le_succ_of_le ?_) | go_size))
  obtain ⟨⟨c0, c1, c2, c3, c4, c5, c6, c7, c8⟩, _⟩ := BX5.cells9
  obtain ⟨⟨d0, d1, d2, d3, d4, d5, d6, d7, d8⟩, _⟩ := BZ5.cells9
  have hq := eql_eight 9997 y0 y1 y2 y3 y4 y5 y6 y7 w5
  go_wp2_with fail
  refine (ref_Rows _ l _ (HL.out.keep (by (repeat' (first | (with_reducible exact Below.refl _ _) | (with_reducible assumption) | (with_reducible refine Below.next ?_ (by with_reducible assumption)) | (with_reducible refine Below.drew ?_) | (with_reducible refine Below.laid ?_ _) | (with_reducible refine Below.setCell ?_ ?_ _) | (with_reducible refine size_of ?_) | (with_reducible refine Nat.le_succ_of_le ?_) | go_size))))).mono ?_
  rintro e w' ⟨rfl, rfl⟩
  clear c0 c1 c2 c3 c4 c5 c6 c7 c8 d0 d1 d2 d3 d4 d5 d6 d7 d8 hq
  by_cases hr : Venn.rowsChk l = 0
  · have hall : l.all Venn.rowOk = true := by
      unfold Venn.rowsChk at hr
      split at hr
      · cases hr
      · split at hr
        · assumption
        · cases hr
    have HRC := Lib.hid hr
    have HFC := Lib.hid (show Venn.fitsChk l [n0, n1, n2, n3, n4, n5, n6, n7] = Venn.countsChk [n0, n1, n2, n3, n4, n5, n6, n7] from if_pos hr)
    rw [hr]
    have HALL := Lib.hid hall
    clear hr hall
    obtain ⟨f0, f1, f2, f3, f4, f5, f6, f7⟩ := BN5.cells8.1
    have hl5 := BN5.lt
    go_wp2_with fail
    refine (ref_Counts _ _ _ _ _ _ _ _ _).mono ?_
    rintro e w6 ⟨rfl, hb6⟩
    have BN6 := BN5.keep hb6
    have hbw6 : Below w.heap.size w w6 := by (repeat' (first | (with_reducible exact Below.refl _ _) | (with_reducible assumption) | (with_reducible refine Below.next ?_ (by with_reducible assumption)) | (with_reducible refine Below.drew ?_) | (with_reducible refine Below.laid ?_ _) | (with_reducible refine Below.setCell ?_ ?_ _) | (with_reducible refine size_of ?_) | (with_reducible refine Nat.le_succ_of_le ?_) | go_size))
    clear f0 f1 f2 f3 f4 f5 f6 f7 hl5
    obtain ⟨f0, f1, f2, f3, f4, f5, f6, f7⟩ := BN6.cells8.1
    have hl6 := BN6.lt
    by_cases hg : Venn.countsChk [n0, n1, n2, n3, n4, n5, n6, n7] = 0
    · have HG := Lib.hid hg
      have HFV := Lib.hid (show Venn.fitsV l [n0, n1, n2, n3, n4, n5, n6, n7] = Venn.rowsSo l [n0, n1, n2, n3, n4, n5, n6, n7] from if_pos (HFC.out.trans hg))
      have HFZ := Lib.hid (HFC.out.trans hg)
      rw [hg]
      clear hg
      go_wp2_with fail
      refine (ref_Fits _ l _ _ _ _ _ _ _ _ _ (HL.out.keep (by (repeat' (first | (with_reducible exact Below.refl _ _) | (with_reducible assumption) | (with_reducible refine Below.next ?_ (by with_reducible assumption)) | (with_reducible refine Below.drew ?_) | (with_reducible refine Below.laid ?_ _) | (with_reducible refine Below.setCell ?_ ?_ _) | (with_reducible refine size_of ?_) | (with_reducible refine Nat.le_succ_of_le ?_) | go_size)))) HALL.out HG.out).mono ?_
      rintro e w7 ⟨rfl, hb7⟩
      have BN7 := BN6.keep hb7
      have hbw7 : Below w.heap.size w w7 := by (repeat' (first | (with_reducible exact Below.refl _ _) | (with_reducible assumption) | (with_reducible refine Below.next ?_ (by with_reducible assumption)) | (with_reducible refine Below.drew ?_) | (with_reducible refine Below.laid ?_ _) | (with_reducible refine Below.setCell ?_ ?_ _) | (with_reducible refine size_of ?_) | (with_reducible refine Nat.le_succ_of_le ?_) | go_size))
      clear f0 f1 f2 f3 f4 f5 f6 f7 hl6
      obtain ⟨f0, f1, f2, f3, f4, f5, f6, f7⟩ := BN7.cells8.1
      have hl7 := BN7.lt
      go_wp2_with fail
      refine (rows_Fits _ l _ _ _ _ _ _ _ _ _ (HL.out.keep (by (repeat' (first | (with_reducible exact Below.refl _ _) | (with_reducible assumption) | (with_reducible refine Below.next ?_ (by with_reducible assumption)) | (with_reducible refine Below.drew ?_) | (with_reducible refine Below.laid ?_ _) | (with_reducible refine Below.setCell ?_ ?_ _) | (with_reducible refine size_of ?_) | (with_reducible refine Nat.le_succ_of_le ?_) | go_size))))).mono ?_
      rintro e w8 ⟨rfl, hb8⟩
      rw [HFV.out, HFZ.out]
      clear f0 f1 f2 f3 f4 f5 f6 f7 hl7
      generalize Venn.rowsSo l [n0, n1, n2, n3, n4, n5, n6, n7] = so
      go_wp2_with fail
      refine (vennsame_Error _ _ _ (HET.keep (by (repeat' (first | (with_reducible exact Below.refl _ _) | (with_reducible assumption) | (with_reducible refine Below.next ?_ (by with_reducible assumption)) | (with_reducible refine Below.drew ?_) | (with_reducible refine Below.laid ?_ _) | (with_reducible refine Below.setCell ?_ ?_ _) | (with_reducible refine size_of ?_) | (with_reducible refine Nat.le_succ_of_le ?_) | go_size))))).mono ?_
      rintro e w9 ⟨rfl, hb9⟩
      go_wp2
      go_ret
      exact ⟨by simp, by (repeat' (first | (with_reducible exact Below.refl _ _) | (with_reducible assumption) | (with_reducible refine Below.next ?_ (by with_reducible assumption)) | (with_reducible refine Below.drew ?_) | (with_reducible refine Below.laid ?_ _) | (with_reducible refine Below.setCell ?_ ?_ _) | (with_reducible refine size_of ?_) | (with_reducible refine Nat.le_succ_of_le ?_) | go_size))⟩
    · have HFV := Lib.hid (show Venn.fitsV l [n0, n1, n2, n3, n4, n5, n6, n7] = false from if_neg (fun h => hg (HFC.out.symm.trans h)))
      have hg1 : (Venn.countsChk [n0, n1, n2, n3, n4, n5, n6, n7] == 0) = false := by simpa using hg
      clear hg
      go_wp2_with fail
      refine (rows_Fits _ l _ _ _ _ _ _ _ _ _ (HL.out.keep (by (repeat' (first | (with_reducible exact Below.refl _ _) | (with_reducible assumption) | (with_reducible refine Below.next ?_ (by with_reducible assumption)) | (with_reducible refine Below.drew ?_) | (with_reducible refine Below.laid ?_ _) | (with_reducible refine Below.setCell ?_ ?_ _) | (with_reducible refine size_of ?_) | (with_reducible refine Nat.le_succ_of_le ?_) | go_size))))).mono ?_
      rintro e w8 ⟨rfl, hb8⟩
      rw [HFV.out, HFC.out]
      clear f0 f1 f2 f3 f4 f5 f6 f7 hl6
      go_wp2_with fail
      refine (vennsame_Error _ _ _ (HET.keep (by (repeat' (first | (with_reducible exact Below.refl _ _) | (with_reducible assumption) | (with_reducible refine Below.next ?_ (by with_reducible assumption)) | (with_reducible refine Below.drew ?_) | (with_reducible refine Below.laid ?_ _) | (with_reducible refine Below.setCell ?_ ?_ _) | (with_reducible refine size_of ?_) | (with_reducible refine Nat.le_succ_of_le ?_) | go_size))))).mono ?_
      rintro e w9 ⟨rfl, hb9⟩
      go_wp2
      go_ret
      exact ⟨by simp, by (repeat' (first | (with_reducible exact Below.refl _ _) | (with_reducible assumption) | (with_reducible refine Below.next ?_ (by with_reducible assumption)) | (with_reducible refine Below.drew ?_) | (with_reducible refine Below.laid ?_ _) | (with_reducible refine Below.setCell ?_ ?_ _) | (with_reducible refine size_of ?_) | (with_reducible refine Nat.le_succ_of_le ?_) | go_size))⟩
  · have HFC := Lib.hid (show Venn.fitsChk l [n0, n1, n2, n3, n4, n5, n6, n7] = Venn.rowsChk l from if_neg hr)
    have HFV := Lib.hid (show Venn.fitsV l [n0, n1, n2, n3, n4, n5, n6, n7] = false from if_neg (fun h => hr (HFC.out.symm.trans h)))
    have hr1 : (Venn.rowsChk l == 0) = false := by simpa using hr
    clear hr
    obtain ⟨f0, f1, f2, f3, f4, f5, f6, f7⟩ := BN5.cells8.1
    have hl5 := BN5.lt
    go_wp2_with fail
    refine (rows_Fits _ l _ _ _ _ _ _ _ _ _ (HL.out.keep (by (repeat' (first | (with_reducible exact Below.refl _ _) | (with_reducible assumption) | (with_reducible refine Below.next ?_ (by with_reducible assumption)) | (with_reducible refine Below.drew ?_) | (with_reducible refine Below.laid ?_ _) | (with_reducible refine Below.setCell ?_ ?_ _) | (with_reducible refine size_of ?_) | (with_reducible refine Nat.le_succ_of_le ?_) | go_size))))).mono ?_
    rintro e w8 ⟨rfl, hb8⟩
    rw [HFV.out, HFC.out]
    clear f0 f1 f2 f3 f4 f5 f6 f7 hl5
    go_wp2_with fail
    refine (vennsame_Error _ _ _ (HET.keep (by (repeat' (first | (with_reducible exact Below.refl _ _) | (with_reducible assumption) | (with_reducible refine Below.next ?_ (by with_reducible assumption)) | (with_reducible refine Below.drew ?_) | (with_reducible refine Below.laid ?_ _) | (with_reducible refine Below.setCell ?_ ?_ _) | (with_reducible refine size_of ?_) | (with_reducible refine Nat.le_succ_of_le ?_) | go_size))))).mono ?_
    rintro e w9 ⟨rfl, hb9⟩
    go_wp2
    go_ret
    exact ⟨by simp, by (repeat' (first | (with_reducible exact Below.refl _ _) | (with_reducible assumption) | (with_reducible refine Below.next ?_ (by with_reducible assumption)) | (with_reducible refine Below.drew ?_) | (with_reducible refine Below.laid ?_ _) | (with_reducible refine Below.setCell ?_ ?_ _) | (with_reducible refine size_of ?_) | (with_reducible refine Nat.le_succ_of_le ?_) | go_size))⟩
set_option maxHeartbeats 4000000 in
set_option maxRecDepth 100000 in
theorem rowsTell_b (what n : Int) (sv tv rv : Value) (s t : List Int) (l : List (List Int)) (holds : Bool) (n0 n1 n2 n3 n4 n5 n6 n7 : Int) (w : World) (hs : IsInts w sv s) (ht : IsInts w tv t) (hl : IsRows w rv l) (HET : EtOk w) (hk : KindsOk w) (hc : Venn.atomChk ⟨what, s, t, n⟩ ≠ 0) :
    Calls Tryd.prog 9 #[.agg #[.int .i64 what, sv, tv, .int .i64 n], .bool holds, rv, .agg #[.int .i64 n0, .int .i64 n1, .int .i64 n2, .int .i64 n3, .int .i64 n4, .int .i64 n5, .int .i64 n6, .int .i64 n7]] w (Keeps (.bool true) w) := by
  obtain ⟨sA, sc, rfl, hs'⟩ := hs
  obtain ⟨tA, tc, rfl, ht'⟩ := ht
  obtain ⟨rA, rc, rfl, hl'⟩ := hl
  have HS := Lib.hid (show IsInts w (.slice sA s.length sc) s from ⟨sA, sc, rfl, hs'⟩)
  have HT := Lib.hid (show IsInts w (.slice tA t.length tc) t from ⟨tA, tc, rfl, ht'⟩)
  have HL := Lib.hid (show IsRows w (.slice rA l.length rc) l from ⟨rA, rc, rfl, hl'⟩)
  clear hs' ht' hl'
  have hc1 : (Venn.atomChk ⟨what, s, t, n⟩ == 0) = false := by simpa using hc
  have HO := Lib.hid (show rowOfV ⟨what, s, t, n⟩ holds = .agg #[.int .i64 0, .int .i64 0, .int .i64 0, .int .i64 0, .int .i64 0, .int .i64 0, .int .i64 0, .int .i64 0, .int .i64 0] from if_neg hc)
  clear hc
  have HRA := Lib.hid (fun W h1 h2 => ref_Atom what n (.slice sA s.length sc) (.slice tA t.length tc) s t W h1 h2)
  have HRO := Lib.hid (fun W h1 h2 h3 => rows_Of what n (.slice sA s.length sc) (.slice tA t.length tc) s t holds W h1 h2 h3)
  rw [HO.out] at HRO
  generalize Venn.atomChk ⟨what, s, t, n⟩ = E at hc1 HRA HRO
  go_enter Tryd.func9, Tryd.ntmps9
  go_wp2_with fail
  refine (HRA.out _ (HS.out.keep (by (repeat' (first | (with_reducible exact Below.refl _ _) | (with_reducible assumption) | (with_reducible refine Below.next ?_ (by with_reducible assumption)) | (with_reducible refine Below.drew ?_) | (with_reducible refine Below.laid ?_ _) | (with_reducible refine Below.setCell ?_ ?_ _) | (with_reducible refine size_of ?_) | (with_reducible refine Nat.le_succ_of_le ?_) | go_size)))) (HT.out.keep (by (repeat' (first | (with_reducible exact Below.refl _ _) | (with_reducible assumption) | (with_reducible refine Below.next ?_ (by with_reducible assumption)) | (with_reducible refine Below.drew ?_) | (with_reducible refine Below.laid ?_ _) | (with_reducible refine Below.setCell ?_ ?_ _) | (with_reducible refine size_of ?_) | (with_reducible refine Nat.le_succ_of_le ?_) | go_size))))).mono ?_
  rintro e w1 ⟨rfl, hb1⟩
  have BA1 := ((Blk.new w 56 #[.int .i64 what, .slice sA s.length sc, .slice tA t.length tc, .int .i64 n]).alloc _).keep hb1
  have BN1 := (Blk.newAt (w := w.alloc (.cells #[.int .i64 what, .slice sA s.length sc, .slice tA t.length tc, .int .i64 n] 56)) (g := w.heap.size + 1) (by simp) 23 #[.int .i64 n0, .int .i64 n1, .int .i64 n2, .int .i64 n3, .int .i64 n4, .int .i64 n5, .int .i64 n6, .int .i64 n7]).keep hb1
  obtain ⟨a0, a1, a2, a3⟩ := BA1.cells4
  have hl1 := BA1.lt
  have hn1 := BN1.lt
  have hbw1 : Below w.heap.size w w1 := by (repeat' (first | (with_reducible exact Below.refl _ _) | (with_reducible assumption) | (with_reducible refine Below.next ?_ (by with_reducible assumption)) | (with_reducible refine Below.drew ?_) | (with_reducible refine Below.laid ?_ _) | (with_reducible refine Below.setCell ?_ ?_ _) | (with_reducible refine size_of ?_) | (with_reducible refine Nat.le_succ_of_le ?_) | go_size))
  clear hb1
  go_wp2_with fail
  refine (HRO.out _ (HS.out.keep (by (repeat' (first | (with_reducible exact Below.refl _ _) | (with_reducible assumption) | (with_reducible refine Below.next ?_ (by with_reducible assumption)) | (with_reducible refine Below.drew ?_) | (with_reducible refine Below.laid ?_ _) | (with_reducible refine Below.setCell ?_ ?_ _) | (with_reducible refine size_of ?_) | (with_reducible refine Nat.le_succ_of_le ?_) | go_size)))) (HT.out.keep (by (repeat' (first | (with_reducible exact Below.refl _ _) | (with_reducible assumption) | (with_reducible refine Below.next ?_ (by with_reducible assumption)) | (with_reducible refine Below.drew ?_) | (with_reducible refine Below.laid ?_ _) | (with_reducible refine Below.setCell ?_ ?_ _) | (with_reducible refine size_of ?_) | (with_reducible refine Nat.le_succ_of_le ?_) | go_size)))) (hk.keep (by (repeat' (first | (with_reducible exact Below.refl _ _) | (with_reducible assumption) | (with_reducible refine Below.next ?_ (by with_reducible assumption)) | (with_reducible refine Below.drew ?_) | (with_reducible refine Below.laid ?_ _) | (with_reducible refine Below.setCell ?_ ?_ _) | (with_reducible refine size_of ?_) | (with_reducible refine Nat.le_succ_of_le ?_) | go_size))))).mono ?_
  rintro e w4 ⟨rfl, hb4⟩
  have BN4 := (BN1.alloc _).keep hb4
  have BZ4 := (Blk.new w1 79 zero9).keep hb4
  have hbw4 : Below w.heap.size w w4 := by (repeat' (first | (with_reducible exact Below.refl _ _) | (with_reducible assumption) | (with_reducible refine Below.next ?_ (by with_reducible assumption)) | (with_reducible refine Below.drew ?_) | (with_reducible refine Below.laid ?_ _) | (with_reducible refine Below.setCell ?_ ?_ _) | (with_reducible refine size_of ?_) | (with_reducible refine Nat.le_succ_of_le ?_) | go_size))
  have hgz : w.heap.size + 1 < w1.heap.size := by omega
  clear a0 a1 a2 a3 hl1 hn1 hb4
  go_wp2_with fail
  refine (vennsame_Error _ _ _ (HET.keep (by (repeat' (first | (with_reducible exact Below.refl _ _) | (with_reducible assumption) | (with_reducible refine Below.next ?_ (by with_reducible assumption)) | (with_reducible refine Below.drew ?_) | (with_reducible refine Below.laid ?_ _) | (with_reducible refine Below.setCell ?_ ?_ _) | (with_reducible refine size_of ?_) | (with_reducible refine Nat.le_succ_of_le ?_) | go_size))))).mono ?_
  rintro e w5 ⟨rfl, hw5⟩
  have BX5 := (Blk.new w4 79 #[.int .i64 0, .int .i64 0, .int .i64 0, .int .i64 0, .int .i64 0, .int .i64 0, .int .i64 0, .int .i64 0, .int .i64 0]).keep hw5
  have BZ5 := (BZ4.alloc _).keep hw5
  have BN5 := (BN4.alloc _).keep hw5
  have hbw5 : Below w.heap.size w w5 := by (repeat' (first | (with_reducible exact Below.refl _ _) | (with_reducible assumption) | (with_reducible refine Below.next ?_ (by with_reducible assumption)) | (with_reducible refine Below.drew ?_) | (with_reducible refine Below.laid ?_ _) | (with_reducible refine Below.setCell ?_ ?_ _) | (with_reducible refine size_of ?_) | (with_reducible refine Nat.le_succ_of_le ?_) | go_size))
  obtain ⟨⟨c0, c1, c2, c3, c4, c5, c6, c7, c8⟩, _⟩ := BX5.cells9
  obtain ⟨⟨d0, d1, d2, d3, d4, d5, d6, d7, d8⟩, _⟩ := BZ5.cells9
  have hq := eql_eight 9997 0 0 0 0 0 0 0 0 w5
  go_wp2_with fail
  refine (ref_Rows _ l _ (HL.out.keep (by (repeat' (first | (with_reducible exact Below.refl _ _) | (with_reducible assumption) | (with_reducible refine Below.next ?_ (by with_reducible assumption)) | (with_reducible refine Below.drew ?_) | (with_reducible refine Below.laid ?_ _) | (with_reducible refine Below.setCell ?_ ?_ _) | (with_reducible refine size_of ?_) | (with_reducible refine Nat.le_succ_of_le ?_) | go_size))))).mono ?_
  rintro e w' ⟨rfl, rfl⟩
  clear c0 c1 c2 c3 c4 c5 c6 c7 c8 d0 d1 d2 d3 d4 d5 d6 d7 d8 hq
  by_cases hr : Venn.rowsChk l = 0
  · have hall : l.all Venn.rowOk = true := by
      unfold Venn.rowsChk at hr
      split at hr
      · cases hr
      · split at hr
        · assumption
        · cases hr
    have HRC := Lib.hid hr
    have HFC := Lib.hid (show Venn.fitsChk l [n0, n1, n2, n3, n4, n5, n6, n7] = Venn.countsChk [n0, n1, n2, n3, n4, n5, n6, n7] from if_pos hr)
    rw [hr]
    have HALL := Lib.hid hall
    clear hr hall
    obtain ⟨f0, f1, f2, f3, f4, f5, f6, f7⟩ := BN5.cells8.1
    have hl5 := BN5.lt
    go_wp2_with fail
    refine (ref_Counts _ _ _ _ _ _ _ _ _).mono ?_
    rintro e w6 ⟨rfl, hb6⟩
    have BN6 := BN5.keep hb6
    have hbw6 : Below w.heap.size w w6 := by (repeat' (first | (with_reducible exact Below.refl _ _) | (with_reducible assumption) | (with_reducible refine Below.next ?_ (by with_reducible assumption)) | (with_reducible refine Below.drew ?_) | (with_reducible refine Below.laid ?_ _) | (with_reducible refine Below.setCell ?_ ?_ _) | (with_reducible refine size_of ?_) | (with_reducible refine Nat.le_succ_of_le ?_) | go_size))
    clear f0 f1 f2 f3 f4 f5 f6 f7 hl5
    obtain ⟨f0, f1, f2, f3, f4, f5, f6, f7⟩ := BN6.cells8.1
    have hl6 := BN6.lt
    by_cases hg : Venn.countsChk [n0, n1, n2, n3, n4, n5, n6, n7] = 0
    · have HG := Lib.hid hg
      have HFV := Lib.hid (show Venn.fitsV l [n0, n1, n2, n3, n4, n5, n6, n7] = Venn.rowsSo l [n0, n1, n2, n3, n4, n5, n6, n7] from if_pos (HFC.out.trans hg))
      have HFZ := Lib.hid (HFC.out.trans hg)
      rw [hg]
      clear hg
      go_wp2_with fail
      refine (ref_Fits _ l _ _ _ _ _ _ _ _ _ (HL.out.keep (by (repeat' (first | (with_reducible exact Below.refl _ _) | (with_reducible assumption) | (with_reducible refine Below.next ?_ (by with_reducible assumption)) | (with_reducible refine Below.drew ?_) | (with_reducible refine Below.laid ?_ _) | (with_reducible refine Below.setCell ?_ ?_ _) | (with_reducible refine size_of ?_) | (with_reducible refine Nat.le_succ_of_le ?_) | go_size)))) HALL.out HG.out).mono ?_
      rintro e w7 ⟨rfl, hb7⟩
      have BN7 := BN6.keep hb7
      have hbw7 : Below w.heap.size w w7 := by (repeat' (first | (with_reducible exact Below.refl _ _) | (with_reducible assumption) | (with_reducible refine Below.next ?_ (by with_reducible assumption)) | (with_reducible refine Below.drew ?_) | (with_reducible refine Below.laid ?_ _) | (with_reducible refine Below.setCell ?_ ?_ _) | (with_reducible refine size_of ?_) | (with_reducible refine Nat.le_succ_of_le ?_) | go_size))
      clear f0 f1 f2 f3 f4 f5 f6 f7 hl6
      obtain ⟨f0, f1, f2, f3, f4, f5, f6, f7⟩ := BN7.cells8.1
      have hl7 := BN7.lt
      go_wp2_with fail
      refine (rows_Fits _ l _ _ _ _ _ _ _ _ _ (HL.out.keep (by (repeat' (first | (with_reducible exact Below.refl _ _) | (with_reducible assumption) | (with_reducible refine Below.next ?_ (by with_reducible assumption)) | (with_reducible refine Below.drew ?_) | (with_reducible refine Below.laid ?_ _) | (with_reducible refine Below.setCell ?_ ?_ _) | (with_reducible refine size_of ?_) | (with_reducible refine Nat.le_succ_of_le ?_) | go_size))))).mono ?_
      rintro e w8 ⟨rfl, hb8⟩
      rw [HFV.out, HFZ.out]
      clear f0 f1 f2 f3 f4 f5 f6 f7 hl7
      generalize Venn.rowsSo l [n0, n1, n2, n3, n4, n5, n6, n7] = so
      go_wp2_with fail
      refine (vennsame_Error _ _ _ (HET.keep (by (repeat' (first | (with_reducible exact Below.refl _ _) | (with_reducible assumption) | (with_reducible refine Below.next ?_ (by with_reducible assumption)) | (with_reducible refine Below.drew ?_) | (with_reducible refine Below.laid ?_ _) | (with_reducible refine Below.setCell ?_ ?_ _) | (with_reducible refine size_of ?_) | (with_reducible refine Nat.le_succ_of_le ?_) | go_size))))).mono ?_
      rintro e w9 ⟨rfl, hb9⟩
      go_wp2
      go_ret
      exact ⟨by simp, by (repeat' (first | (with_reducible exact Below.refl _ _) | (with_reducible assumption) | (with_reducible refine Below.next ?_ (by with_reducible assumption)) | (with_reducible refine Below.drew ?_) | (with_reducible refine Below.laid ?_ _) | (with_reducible refine Below.setCell ?_ ?_ _) | (with_reducible refine size_of ?_) | (with_reducible refine Nat.le_succ_of_le ?_) | go_size))⟩
    · have HFV := Lib.hid (show Venn.fitsV l [n0, n1, n2, n3, n4, n5, n6, n7] = false from if_neg (fun h => hg (HFC.out.symm.trans h)))
      have hg1 : (Venn.countsChk [n0, n1, n2, n3, n4, n5, n6, n7] == 0) = false := by simpa using hg
      clear hg
      go_wp2_with fail
      refine (rows_Fits _ l _ _ _ _ _ _ _ _ _ (HL.out.keep (by (repeat' (first | (with_reducible exact Below.refl _ _) | (with_reducible assumption) | (with_reducible refine Below.next ?_ (by with_reducible assumption)) | (with_reducible refine Below.drew ?_) | (with_reducible refine Below.laid ?_ _) | (with_reducible refine Below.setCell ?_ ?_ _) | (with_reducible refine size_of ?_) | (with_reducible refine Nat.le_succ_of_le ?_) | go_size))))).mono ?_
      rintro e w8 ⟨rfl, hb8⟩
      rw [HFV.out, HFC.out]
      clear f0 f1 f2 f3 f4 f5 f6 f7 hl6
      go_wp2_with fail
      refine (vennsame_Error _ _ _ (HET.keep (by (repeat' (first | (with_reducible exact Below.refl _ _) | (with_reducible assumption) | (with_reducible refine Below.next ?_ (by with_reducible assumption)) | (with_reducible refine Below.drew ?_) | (with_reducible refine Below.laid ?_ _) | (with_reducible refine Below.setCell ?_ ?_ _) | (with_reducible refine size_of ?_) | (with_reducible refine Nat.le_succ_of_le ?_) | go_size))))).mono ?_
      rintro e w9 ⟨rfl, hb9⟩
      go_wp2
      go_ret
      exact ⟨by simp, by (repeat' (first | (with_reducible exact Below.refl _ _) | (with_reducible assumption) | (with_reducible refine Below.next ?_ (by with_reducible assumption)) | (with_reducible refine Below.drew ?_) | (with_reducible refine Below.laid ?_ _) | (with_reducible refine Below.setCell ?_ ?_ _) | (with_reducible refine size_of ?_) | (with_reducible refine Nat.le_succ_of_le ?_) | go_size))⟩
  · have HFC := Lib.hid (show Venn.fitsChk l [n0, n1, n2, n3, n4, n5, n6, n7] = Venn.rowsChk l from if_neg hr)
    have HFV := Lib.hid (show Venn.fitsV l [n0, n1, n2, n3, n4, n5, n6, n7] = false from if_neg (fun h => hr (HFC.out.symm.trans h)))
    have hr1 : (Venn.rowsChk l == 0) = false := by simpa using hr
    clear hr
    obtain ⟨f0, f1, f2, f3, f4, f5, f6, f7⟩ := BN5.cells8.1
    have hl5 := BN5.lt
    go_wp2_with fail
    refine (rows_Fits _ l _ _ _ _ _ _ _ _ _ (HL.out.keep (by (repeat' (first | (with_reducible exact Below.refl _ _) | (with_reducible assumption) | (with_reducible refine Below.next ?_ (by with_reducible assumption)) | (with_reducible refine Below.drew ?_) | (with_reducible refine Below.laid ?_ _) | (with_reducible refine Below.setCell ?_ ?_ _) | (with_reducible refine size_of ?_) | (with_reducible refine Nat.le_succ_of_le ?_) | go_size))))).mono ?_
    rintro e w8 ⟨rfl, hb8⟩
    rw [HFV.out, HFC.out]
    clear f0 f1 f2 f3 f4 f5 f6 f7 hl5
    go_wp2_with fail
    refine (vennsame_Error _ _ _ (HET.keep (by (repeat' (first | (with_reducible exact Below.refl _ _) | (with_reducible assumption) | (with_reducible refine Below.next ?_ (by with_reducible assumption)) | (with_reducible refine Below.drew ?_) | (with_reducible refine Below.laid ?_ _) | (with_reducible refine Below.setCell ?_ ?_ _) | (with_reducible refine size_of ?_) | (with_reducible refine Nat.le_succ_of_le ?_) | go_size))))).mono ?_
    rintro e w9 ⟨rfl, hb9⟩
    go_wp2
    go_ret
    exact ⟨by simp, by (repeat' (first | (with_reducible exact Below.refl _ _) | (with_reducible assumption) | (with_reducible refine Below.next ?_ (by with_reducible assumption)) | (with_reducible refine Below.drew ?_) | (with_reducible refine Below.laid ?_ _) | (with_reducible refine Below.setCell ?_ ?_ _) | (with_reducible refine size_of ?_) | (with_reducible refine Nat.le_succ_of_le ?_) | go_size))⟩
set_option maxHeartbeats 4000000 in
set_option maxRecDepth 100000 in
theorem rowsTell_walk (what n : Int) (sv tv rv : Value) (s t : List Int) (l : List (List Int)) (holds : Bool) (n0 n1 n2 n3 n4 n5 n6 n7 : Int) (w : World) (hs : IsInts w sv s) (ht : IsInts w tv t) (hl : IsRows w rv l) (HET : EtOk w) (hk : KindsOk w) :
    Calls Tryd.prog 9 #[.agg #[.int .i64 what, sv, tv, .int .i64 n], .bool holds, rv, .agg #[.int .i64 n0, .int .i64 n1, .int .i64 n2, .int .i64 n3, .int .i64 n4, .int .i64 n5, .int .i64 n6, .int .i64 n7]] w (Keeps (.bool true) w) := by
  by_cases hc : Venn.atomChk ⟨what, s, t, n⟩ = 0
  · exact rowsTell_a what n sv tv rv s t l holds n0 n1 n2 n3 n4 n5 n6 n7 w hs ht hl HET hk hc
  · exact rowsTell_b what n sv tv rv s t l holds n0 n1 n2 n3 n4 n5 n6 n7 w hs ht hl HET hk hc
end Go.Proofs.YtnjamgmaclmlpaaDoor
