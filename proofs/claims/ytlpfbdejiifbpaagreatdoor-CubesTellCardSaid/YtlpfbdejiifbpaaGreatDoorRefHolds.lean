/-
  THE WALK of the reference's Holds.
-/
import Derived.Test.YtlpfbdejiifbpaaGreatDoorRefAtom
import Derived.Test.YtlpfbdejiifbpaaGreatDoorRefSets
import Derived.BigQuiet
import Derived.IntWalk
namespace Go.Proofs.YtlpfbdejiifbpaaGreatDoor
open Go.RowKit

set_option maxHeartbeats 4000000 in
set_option maxRecDepth 100000 in
theorem ref_Holds (what n : Int) (sv tv : Value) (s t : List Int) (th a b d : Int) (w : World) (hs : IsInts w sv s) (ht : IsInts w tv t) (hc : Venn.atomChk ⟨what, s, t, n⟩ = 0) (hw : Venn.worldChk ⟨th, a, b, d⟩ = 0) :
    Calls Tryz.prog 16 #[.agg #[.int .i64 what, sv, tv, .int .i64 n], .agg #[.int .i64 th, .int .i64 a, .int .i64 b, .int .i64 d]] w (Keeps (.bool (Venn.atomTrue ⟨what, s, t, n⟩ ⟨th, a, b, d⟩)) w) := by
  obtain ⟨sA, sc, rfl, hs'⟩ := hs
  obtain ⟨tA, tc, rfl, ht'⟩ := ht
  have HS := Lib.hid (show IsInts w (.slice sA s.length sc) s from ⟨sA, sc, rfl, hs'⟩)
  have HT := Lib.hid (show IsInts w (.slice tA t.length tc) t from ⟨tA, tc, rfl, ht'⟩)
  clear hs' ht'
  obtain ⟨g1, g2, hcs, hct, hct2, hn1, hn2, hn3⟩ := Venn.atomChk_parts hc
  have HVS := Lib.hid (fun W h => ref_Value (.slice sA s.length sc) s th a b d W h hcs hw)
  have HVT := Lib.hid (fun h0 W h => ref_Value (.slice tA t.length tc) t th a b d W h (hct h0) hw)
  have hS := Venn.termSet_right hw s
  have hT := Venn.termSet_right hw t
  simp only at hn1 hn2 g1 g2 hcs hct hS hT HVT
  obtain ⟨E, hE⟩ : ∃ E, E = Venn.atomTrue ⟨what, s, t, n⟩ ⟨th, a, b, d⟩ := ⟨_, rfl⟩
  rw [← hE]
  unfold Venn.atomTrue at hE
  simp only at hE
  generalize Venn.termSet s ⟨th, a, b, d⟩ = S at HVS hS hE
  generalize Venn.termSet t ⟨th, a, b, d⟩ = U at HVT hT hE
  have HSZ := Lib.hid (fun W => ref_Size S W (by have := setChk_63 hS; omega))
  have HUZ := Lib.hid (fun W => ref_Size U W (by have := setChk_63 hT; omega))
  have HD := Lib.hid (fun W => ref_Do 7 th S U W (by omega) hS hT)
  have hm1 := Venn.many_le S
  have hm2 := Venn.many_le U
  clear hc hw hcs hct hct2 hn3 hS hT
  rcases (by omega : what = 1 ∨ what = 2 ∨ what = 3 ∨ what = 4 ∨ what = 5) with rfl | rfl | rfl | rfl | rfl
  · have HV := Lib.hid (show E = (Venn.setOf 7 th S U == 0) by rw [hE]; simp [Venn.setOf])
    clear hE HUZ
    generalize Venn.setOf 7 th S U = SO at HV HD
    generalize Venn.many S = MS at HSZ hm1
    go_enter Tryz.func16, Tryz.ntmps16
    go_wp2_with fail
    refine (HVS.out _ (HS.out.keep (by (repeat' (first | (with_reducible exact Below.refl _ _) | (with_reducible assumption) | (with_reducible refine Below.next ?_ (by with_reducible assumption)) | (with_reducible refine Below.drew ?_) | (with_reducible refine Below.laid ?_ _) | (with_reducible refine Below.setCell ?_ ?_ _) | (with_reducible refine size_of ?_) | (with_reducible refine Nat.le_succ_of_le ?_) | go_size))))).mono ?_
    rintro e w1 ⟨rfl, hb1⟩
    have BA := ((Blk.new w 42 #[.int .i64 1, .slice sA s.length sc, .slice tA t.length tc, .int .i64 n]).alloc _).keep hb1
    have BW := (Blk.newAt (w := w.alloc (.cells #[.int .i64 1, .slice sA s.length sc, .slice tA t.length tc, .int .i64 n] 42)) (g := w.heap.size + 1) (by simp) 29 #[.int .i64 th, .int .i64 a, .int .i64 b, .int .i64 d]).keep hb1
    have hw1 : Below w.heap.size w w1 := by (repeat' (first | (with_reducible exact Below.refl _ _) | (with_reducible assumption) | (with_reducible refine Below.next ?_ (by with_reducible assumption)) | (with_reducible refine Below.drew ?_) | (with_reducible refine Below.laid ?_ _) | (with_reducible refine Below.setCell ?_ ?_ _) | (with_reducible refine size_of ?_) | (with_reducible refine Nat.le_succ_of_le ?_) | go_size))
    obtain ⟨BA0, BA1, BA2, BA3⟩ := BA.cells4
    have BAl := BA.lt
    obtain ⟨BW0, BW1, BW2, BW3⟩ := BW.cells4
    have BWl := BW.lt
    go_wp2_with (go_at_call 41; refine (HSZ.out _).mono ?_; rintro e w' ⟨rfl, rfl⟩)
    refine (HVT.out (by decide) _ (HT.out.keep (by (repeat' (first | (with_reducible exact Below.refl _ _) | (with_reducible assumption) | (with_reducible refine Below.next ?_ (by with_reducible assumption)) | (with_reducible refine Below.drew ?_) | (with_reducible refine Below.laid ?_ _) | (with_reducible refine Below.setCell ?_ ?_ _) | (with_reducible refine size_of ?_) | (with_reducible refine Nat.le_succ_of_le ?_) | go_size))))).mono ?_
    rintro e w2 ⟨rfl, hb2⟩
    have hw2 := Below.next hw1 hb2
    clear BA0 BA1 BA2 BA3 BAl BW0 BW1 BW2 BW3 BWl
    replace BA := BA.keep hb2
    replace BW := BW.keep hb2
    obtain ⟨BA0, BA1, BA2, BA3⟩ := BA.cells4
    have BAl := BA.lt
    obtain ⟨BW0, BW1, BW2, BW3⟩ := BW.cells4
    have BWl := BW.lt
    go_wp2_with (go_at_call 42; refine (HD.out _).mono ?_; rintro e w' ⟨rfl, rfl⟩)
    go_ret
    exact ⟨ret_bool HV.out.symm, hw2⟩
  · have HV := Lib.hid (show E = (S == U) by rw [hE]; simp)
    clear hE HUZ HD
    generalize Venn.many S = MS at HSZ hm1
    go_enter Tryz.func16, Tryz.ntmps16
    go_wp2_with fail
    refine (HVS.out _ (HS.out.keep (by (repeat' (first | (with_reducible exact Below.refl _ _) | (with_reducible assumption) | (with_reducible refine Below.next ?_ (by with_reducible assumption)) | (with_reducible refine Below.drew ?_) | (with_reducible refine Below.laid ?_ _) | (with_reducible refine Below.setCell ?_ ?_ _) | (with_reducible refine size_of ?_) | (with_reducible refine Nat.le_succ_of_le ?_) | go_size))))).mono ?_
    rintro e w1 ⟨rfl, hb1⟩
    have BA := ((Blk.new w 42 #[.int .i64 2, .slice sA s.length sc, .slice tA t.length tc, .int .i64 n]).alloc _).keep hb1
    have BW := (Blk.newAt (w := w.alloc (.cells #[.int .i64 2, .slice sA s.length sc, .slice tA t.length tc, .int .i64 n] 42)) (g := w.heap.size + 1) (by simp) 29 #[.int .i64 th, .int .i64 a, .int .i64 b, .int .i64 d]).keep hb1
    have hw1 : Below w.heap.size w w1 := by (repeat' (first | (with_reducible exact Below.refl _ _) | (with_reducible assumption) | (with_reducible refine Below.next ?_ (by with_reducible assumption)) | (with_reducible refine Below.drew ?_) | (with_reducible refine Below.laid ?_ _) | (with_reducible refine Below.setCell ?_ ?_ _) | (with_reducible refine size_of ?_) | (with_reducible refine Nat.le_succ_of_le ?_) | go_size))
    obtain ⟨BA0, BA1, BA2, BA3⟩ := BA.cells4
    have BAl := BA.lt
    obtain ⟨BW0, BW1, BW2, BW3⟩ := BW.cells4
    have BWl := BW.lt
    go_wp2_with (go_at_call 41; refine (HSZ.out _).mono ?_; rintro e w' ⟨rfl, rfl⟩)
    refine (HVT.out (by decide) _ (HT.out.keep (by (repeat' (first | (with_reducible exact Below.refl _ _) | (with_reducible assumption) | (with_reducible refine Below.next ?_ (by with_reducible assumption)) | (with_reducible refine Below.drew ?_) | (with_reducible refine Below.laid ?_ _) | (with_reducible refine Below.setCell ?_ ?_ _) | (with_reducible refine size_of ?_) | (with_reducible refine Nat.le_succ_of_le ?_) | go_size))))).mono ?_
    rintro e w2 ⟨rfl, hb2⟩
    have hw2 := Below.next hw1 hb2
    clear BA0 BA1 BA2 BA3 BAl BW0 BW1 BW2 BW3 BWl
    replace BA := BA.keep hb2
    replace BW := BW.keep hb2
    obtain ⟨BA0, BA1, BA2, BA3⟩ := BA.cells4
    have BAl := BA.lt
    obtain ⟨BW0, BW1, BW2, BW3⟩ := BW.cells4
    have BWl := BW.lt
    go_wp2
    go_ret
    exact ⟨ret_bool HV.out.symm, hw2⟩
  · have HV := Lib.hid (show E = decide (n ≤ Venn.many S) by rw [hE]; simp)
    clear hE HUZ HD
    generalize Venn.many S = MS at HSZ hm1 HV
    go_enter Tryz.func16, Tryz.ntmps16
    go_wp2_with fail
    refine (HVS.out _ (HS.out.keep (by (repeat' (first | (with_reducible exact Below.refl _ _) | (with_reducible assumption) | (with_reducible refine Below.next ?_ (by with_reducible assumption)) | (with_reducible refine Below.drew ?_) | (with_reducible refine Below.laid ?_ _) | (with_reducible refine Below.setCell ?_ ?_ _) | (with_reducible refine size_of ?_) | (with_reducible refine Nat.le_succ_of_le ?_) | go_size))))).mono ?_
    rintro e w1 ⟨rfl, hb1⟩
    have BA := ((Blk.new w 42 #[.int .i64 3, .slice sA s.length sc, .slice tA t.length tc, .int .i64 n]).alloc _).keep hb1
    have BW := (Blk.newAt (w := w.alloc (.cells #[.int .i64 3, .slice sA s.length sc, .slice tA t.length tc, .int .i64 n] 42)) (g := w.heap.size + 1) (by simp) 29 #[.int .i64 th, .int .i64 a, .int .i64 b, .int .i64 d]).keep hb1
    have hw1 : Below w.heap.size w w1 := by (repeat' (first | (with_reducible exact Below.refl _ _) | (with_reducible assumption) | (with_reducible refine Below.next ?_ (by with_reducible assumption)) | (with_reducible refine Below.drew ?_) | (with_reducible refine Below.laid ?_ _) | (with_reducible refine Below.setCell ?_ ?_ _) | (with_reducible refine size_of ?_) | (with_reducible refine Nat.le_succ_of_le ?_) | go_size))
    obtain ⟨BA0, BA1, BA2, BA3⟩ := BA.cells4
    have BAl := BA.lt
    obtain ⟨BW0, BW1, BW2, BW3⟩ := BW.cells4
    have BWl := BW.lt
    go_wp2_with (go_at_call 41; refine (HSZ.out _).mono ?_; rintro e w' ⟨rfl, rfl⟩)
    go_ret
    exact ⟨ret_bool HV.out.symm, hw1⟩
  · have HV := Lib.hid (show E = decide (Venn.many S ≤ n) by rw [hE]; simp)
    clear hE HUZ HD
    generalize Venn.many S = MS at HSZ hm1 HV
    go_enter Tryz.func16, Tryz.ntmps16
    go_wp2_with fail
    refine (HVS.out _ (HS.out.keep (by (repeat' (first | (with_reducible exact Below.refl _ _) | (with_reducible assumption) | (with_reducible refine Below.next ?_ (by with_reducible assumption)) | (with_reducible refine Below.drew ?_) | (with_reducible refine Below.laid ?_ _) | (with_reducible refine Below.setCell ?_ ?_ _) | (with_reducible refine size_of ?_) | (with_reducible refine Nat.le_succ_of_le ?_) | go_size))))).mono ?_
    rintro e w1 ⟨rfl, hb1⟩
    have BA := ((Blk.new w 42 #[.int .i64 4, .slice sA s.length sc, .slice tA t.length tc, .int .i64 n]).alloc _).keep hb1
    have BW := (Blk.newAt (w := w.alloc (.cells #[.int .i64 4, .slice sA s.length sc, .slice tA t.length tc, .int .i64 n] 42)) (g := w.heap.size + 1) (by simp) 29 #[.int .i64 th, .int .i64 a, .int .i64 b, .int .i64 d]).keep hb1
    have hw1 : Below w.heap.size w w1 := by (repeat' (first | (with_reducible exact Below.refl _ _) | (with_reducible assumption) | (with_reducible refine Below.next ?_ (by with_reducible assumption)) | (with_reducible refine Below.drew ?_) | (with_reducible refine Below.laid ?_ _) | (with_reducible refine Below.setCell ?_ ?_ _) | (with_reducible refine size_of ?_) | (with_reducible refine Nat.le_succ_of_le ?_) | go_size))
    obtain ⟨BA0, BA1, BA2, BA3⟩ := BA.cells4
    have BAl := BA.lt
    obtain ⟨BW0, BW1, BW2, BW3⟩ := BW.cells4
    have BWl := BW.lt
    go_wp2_with (go_at_call 41; refine (HSZ.out _).mono ?_; rintro e w' ⟨rfl, rfl⟩)
    go_ret
    exact ⟨ret_bool HV.out.symm, hw1⟩
  · have HV := Lib.hid (show E = decide (Venn.many S ≤ Venn.many U + n) by rw [hE]; simp)
    clear hE HD
    generalize Venn.many S = MS at HSZ hm1 HV
    generalize Venn.many U = MU at HUZ hm2 HV
    have hwr : IntKind.i64.wrap (MU + n) = MU + n := IntWalk.i64_in _ (by omega)
    go_enter Tryz.func16, Tryz.ntmps16
    go_wp2_with fail
    refine (HVS.out _ (HS.out.keep (by (repeat' (first | (with_reducible exact Below.refl _ _) | (with_reducible assumption) | (with_reducible refine Below.next ?_ (by with_reducible assumption)) | (with_reducible refine Below.drew ?_) | (with_reducible refine Below.laid ?_ _) | (with_reducible refine Below.setCell ?_ ?_ _) | (with_reducible refine size_of ?_) | (with_reducible refine Nat.le_succ_of_le ?_) | go_size))))).mono ?_
    rintro e w1 ⟨rfl, hb1⟩
    have BA := ((Blk.new w 42 #[.int .i64 5, .slice sA s.length sc, .slice tA t.length tc, .int .i64 n]).alloc _).keep hb1
    have BW := (Blk.newAt (w := w.alloc (.cells #[.int .i64 5, .slice sA s.length sc, .slice tA t.length tc, .int .i64 n] 42)) (g := w.heap.size + 1) (by simp) 29 #[.int .i64 th, .int .i64 a, .int .i64 b, .int .i64 d]).keep hb1
    have hw1 : Below w.heap.size w w1 := by (repeat' (first | (with_reducible exact Below.refl _ _) | (with_reducible assumption) | (with_reducible refine Below.next ?_ (by with_reducible assumption)) | (with_reducible refine Below.drew ?_) | (with_reducible refine Below.laid ?_ _) | (with_reducible refine Below.setCell ?_ ?_ _) | (with_reducible refine size_of ?_) | (with_reducible refine Nat.le_succ_of_le ?_) | go_size))
    obtain ⟨BA0, BA1, BA2, BA3⟩ := BA.cells4
    have BAl := BA.lt
    obtain ⟨BW0, BW1, BW2, BW3⟩ := BW.cells4
    have BWl := BW.lt
    go_wp2_with (go_at_call 41; refine (HSZ.out _).mono ?_; rintro e w' ⟨rfl, rfl⟩)
    refine (HVT.out (by decide) _ (HT.out.keep (by (repeat' (first | (with_reducible exact Below.refl _ _) | (with_reducible assumption) | (with_reducible refine Below.next ?_ (by with_reducible assumption)) | (with_reducible refine Below.drew ?_) | (with_reducible refine Below.laid ?_ _) | (with_reducible refine Below.setCell ?_ ?_ _) | (with_reducible refine size_of ?_) | (with_reducible refine Nat.le_succ_of_le ?_) | go_size))))).mono ?_
    rintro e w2 ⟨rfl, hb2⟩
    have hw2 := Below.next hw1 hb2
    clear BA0 BA1 BA2 BA3 BAl BW0 BW1 BW2 BW3 BWl
    replace BA := BA.keep hb2
    replace BW := BW.keep hb2
    obtain ⟨BA0, BA1, BA2, BA3⟩ := BA.cells4
    have BAl := BA.lt
    obtain ⟨BW0, BW1, BW2, BW3⟩ := BW.cells4
    have BWl := BW.lt
    go_wp2_with fail
    go_quiet ((go_at_call 41; exact Calls.quiet_of_same ((HUZ.out _).mono fun _ _ ⟨h1, h2⟩ => ⟨h1, h2.symm⟩)))
    go_wp2
    go_ret
    exact ⟨ret_bool HV.out.symm, below_drewN hw2 _⟩
end Go.Proofs.YtlpfbdejiifbpaaGreatDoor
