/-
  THE WALK of turn.World: a world with other names.
-/
import Derived.Test.YtlpfbdejiifbpaaDoorOnce
import Derived.Test.YtlpfbdejiifbpaaDoorTurnNames
import Derived.Test.YtlpfbdejiifbpaaDoorVennRenW
import Derived.Test.YtlpfbdejiifbpaaDoorSetsT
namespace Go.Proofs.YtlpfbdejiifbpaaDoor
open Go.RowKit

def worldV (w : Venn.World) : Value := .agg #[.int .i64 w.things, .int .i64 w.a, .int .i64 w.b, .int .i64 w.c]
theorem Blk.set4 {w : World} {g : Nat} {t : TypeId} {y0 y1 y2 y3 : Value} (h : Blk w g t #[y0, y1, y2, y3]) (x0 x1 x2 x3 : Value) :
    Blk ((((w.setCell ⟨g, 0, none⟩ x0).setCell ⟨g, 1, none⟩ x1).setCell ⟨g, 2, none⟩ x2).setCell ⟨g, 3, none⟩ x3) g t #[x0, x1, x2, x3] := by
  have := (((h.set_ 0 x0).set_ 1 x1).set_ 2 x2).set_ 3 x3
  simpa using this
theorem below_set4 {B : Nat} {a w : World} (h : Below B a w) {g : Nat} (hg : B ≤ g) (x0 x1 x2 x3 : Value) : Below B a ((((w.setCell ⟨g, 0, none⟩ x0).setCell ⟨g, 1, none⟩ x1).setCell ⟨g, 2, none⟩ x2).setCell ⟨g, 3, none⟩ x3) :=
  (((h.setCell (p := ⟨g, 0, none⟩) hg _).setCell (p := ⟨g, 1, none⟩) hg _).setCell (p := ⟨g, 2, none⟩) hg _).setCell (p := ⟨g, 3, none⟩) hg _

set_option maxHeartbeats 4000000 in
set_option maxRecDepth 100000 in
theorem turn_World (th a b d n0 n1 n2 : Int) (w : World) :
    Calls Tryd.prog 13 #[.agg #[.int .i64 th, .int .i64 a, .int .i64 b, .int .i64 d], .agg #[.int .i64 n0, .int .i64 n1, .int .i64 n2]] w
      (Keeps (.tuple #[worldV (Venn.renWV ⟨th, a, b, d⟩ n0 n1 n2), errV (Venn.renWErr ⟨th, a, b, d⟩ n0 n1 n2)]) w) := by
  have HON := Lib.hid (fun W v h => turn_once v [n0, n1, n2] W h (by simp))
  by_cases ho : ¬ Venn.onceV [n0, n1, n2] = true
  · have hn : Venn.renWErr ⟨th, a, b, d⟩ n0 n1 n2 = 1 := by rw [Venn.renWErr, if_neg ho]
    have HV := Lib.hid (show Venn.renWV ⟨th, a, b, d⟩ n0 n1 n2 = ⟨0, 0, 0, 0⟩ by rw [Venn.renWV, if_neg (by rw [hn]; decide)])
    have HB := Lib.hid (show Venn.onceV [n0, n1, n2] = false by simpa using ho)
    rw [hn, HV.out]
    clear hn ho
    go_enter Tryd.func13, Tryd.ntmps13
    have BP := ((Blk.newAt (w := w.alloc (.cells #[.int .i64 th, .int .i64 a, .int .i64 b, .int .i64 d] 28)) (g := w.heap.size + 1) (by simp) 26 #[.int .i64 n0, .int .i64 n1, .int .i64 n2]).alloc (.cells #[.int .i64 0, .int .i64 0, .int .i64 0, .int .i64 0] 28))
    have BR := (Blk.newAt (w := (w.alloc (.cells #[.int .i64 th, .int .i64 a, .int .i64 b, .int .i64 d] 28)).alloc (.cells #[.int .i64 n0, .int .i64 n1, .int .i64 n2] 26)) (g := w.heap.size + 1 + 1) (by simp) 28 #[.int .i64 0, .int .i64 0, .int .i64 0, .int .i64 0])
    go_wp2_with fail
    refine (HON.out _ _ (IsInts.of_blk3 BP)).mono ?_
    rintro e w1 ⟨rfl, hb1⟩
    rw [HB.out]
    have hw1 : Below w.heap.size w w1 := by (repeat' (first | (with_reducible exact Below.refl _ _) | (with_reducible assumption) | (with_reducible refine Below.next ?_ (by with_reducible assumption)) | (with_reducible refine Below.drew ?_) | (with_reducible refine Below.laid ?_ _) | (with_reducible refine Below.setCell ?_ ?_ _) | (with_reducible refine size_of ?_) | (with_reducible refine Nat.le_succ_of_le ?_) | go_size))
    replace BR := BR.keep hb1
    obtain ⟨r0, r1, r2, r3⟩ := BR.cells4
    have s0 := BR.frozen 0
    have s1 := BR.frozen 1
    have s2 := BR.frozen 2
    have s3 := BR.frozen 3
    have GL := below_set4 hw1 (show w.heap.size ≤ w.heap.size + 1 + 1 by omega) (.int .i64 0) (.int .i64 0) (.int .i64 0) (.int .i64 0)
    have GS := BR.set4 (.int .i64 0) (.int .i64 0) (.int .i64 0) (.int .i64 0)
    go_wp2
    clear r0 r1 r2 r3 s0 s1 s2 s3
    revert GL GS
    generalize World.setCell _ _ _ = Wf
    intro GL GS
    obtain ⟨e0, e1, e2, e3⟩ := GS.cells4
    refine bodyPost_ret (v := .tuple #[.agg #[.int .i64 0, .int .i64 0, .int .i64 0, .int .i64 0], .iface 58 (.int .i64 1)]) (by simp [results, Tryd.results13, go_sem, e0, e1, e2, e3]) rfl ⟨rfl, GL⟩
  replace ho := Decidable.not_not.1 ho
  have hn : Venn.renWErr ⟨th, a, b, d⟩ n0 n1 n2 = Venn.worldChk ⟨th, a, b, d⟩ := by rw [Venn.renWErr, if_pos ho]
  have HB := Lib.hid ho
  by_cases hw : ¬ Venn.worldChk ⟨th, a, b, d⟩ = 0
  · have HX := Lib.hid (errV_ne hw)
    have HV := Lib.hid (show Venn.renWV ⟨th, a, b, d⟩ n0 n1 n2 = ⟨0, 0, 0, 0⟩ by rw [Venn.renWV, if_neg (by rw [hn]; exact hw)])
    rw [hn, HV.out]
    clear hn ho hw
    go_enter Tryd.func13, Tryd.ntmps13
    have BW := (Blk.new w 28 #[.int .i64 th, .int .i64 a, .int .i64 b, .int .i64 d]).alloc (.cells #[.int .i64 n0, .int .i64 n1, .int .i64 n2] 26) |>.alloc (.cells #[.int .i64 0, .int .i64 0, .int .i64 0, .int .i64 0] 28)
    have BP := ((Blk.newAt (w := w.alloc (.cells #[.int .i64 th, .int .i64 a, .int .i64 b, .int .i64 d] 28)) (g := w.heap.size + 1) (by simp) 26 #[.int .i64 n0, .int .i64 n1, .int .i64 n2]).alloc (.cells #[.int .i64 0, .int .i64 0, .int .i64 0, .int .i64 0] 28))
    have BR := (Blk.newAt (w := (w.alloc (.cells #[.int .i64 th, .int .i64 a, .int .i64 b, .int .i64 d] 28)).alloc (.cells #[.int .i64 n0, .int .i64 n1, .int .i64 n2] 26)) (g := w.heap.size + 1 + 1) (by simp) 28 #[.int .i64 0, .int .i64 0, .int .i64 0, .int .i64 0])
    go_wp2_with fail
    refine (HON.out _ _ (IsInts.of_blk3 BP)).mono ?_
    rintro e w1 ⟨rfl, hb1⟩
    rw [HB.out]
    have hw1 : Below w.heap.size w w1 := by (repeat' (first | (with_reducible exact Below.refl _ _) | (with_reducible assumption) | (with_reducible refine Below.next ?_ (by with_reducible assumption)) | (with_reducible refine Below.drew ?_) | (with_reducible refine Below.laid ?_ _) | (with_reducible refine Below.setCell ?_ ?_ _) | (with_reducible refine size_of ?_) | (with_reducible refine Nat.le_succ_of_le ?_) | go_size))
    replace BW := BW.keep hb1
    replace BP := BP.keep hb1
    replace BR := BR.keep hb1
    obtain ⟨c0, c1, c2, c3⟩ := BW.cells4
    go_wp2_with fail
    refine (term_World _ _ _ _ _).mono ?_
    rintro e w2 ⟨rfl, hb2⟩
    rw [HX.out]
    have hw2 := Below.next hw1 hb2
    replace BW := BW.keep hb2
    replace BP := BP.keep hb2
    replace BR := BR.keep hb2
    clear c0 c1 c2 c3 hb1 hb2 hw1
    obtain ⟨r0, r1, r2, r3⟩ := BR.cells4
    have s0 := BR.frozen 0
    have s1 := BR.frozen 1
    have s2 := BR.frozen 2
    have s3 := BR.frozen 3
    have GL := below_set4 hw2 (show w.heap.size ≤ w.heap.size + 1 + 1 by omega) (.int .i64 0) (.int .i64 0) (.int .i64 0) (.int .i64 0)
    have GS := BR.set4 (.int .i64 0) (.int .i64 0) (.int .i64 0) (.int .i64 0)
    go_wp2
    clear r0 r1 r2 r3 s0 s1 s2 s3
    revert GL GS
    generalize World.setCell _ _ _ = Wf
    intro GL GS
    obtain ⟨e0, e1, e2, e3⟩ := GS.cells4
    refine bodyPost_ret (v := .tuple #[.agg #[.int .i64 0, .int .i64 0, .int .i64 0, .int .i64 0], .iface 58 (.int .i64 (Venn.worldChk ⟨th, a, b, d⟩))]) (by simp [results, Tryd.results13, go_sem, e0, e1, e2, e3]) rfl ⟨by rw [HX.out]; rfl, GL⟩
  replace hw := Decidable.not_not.1 hw
  have HX := Lib.hid (errV_zero hw)
  have HV := Lib.hid (show Venn.renWV ⟨th, a, b, d⟩ n0 n1 n2 = Venn.renW n0 n1 ⟨th, a, b, d⟩ by rw [Venn.renWV, if_pos (by rw [hn]; exact hw)])
  have H6 := Lib.hid (Venn.once_three ho)
  rw [hn, HV.out, hw]
  clear hn ho hw
  go_enter Tryd.func13, Tryd.ntmps13
  have BW := (Blk.new w 28 #[.int .i64 th, .int .i64 a, .int .i64 b, .int .i64 d]).alloc (.cells #[.int .i64 n0, .int .i64 n1, .int .i64 n2] 26) |>.alloc (.cells #[.int .i64 0, .int .i64 0, .int .i64 0, .int .i64 0] 28)
  have BP := ((Blk.newAt (w := w.alloc (.cells #[.int .i64 th, .int .i64 a, .int .i64 b, .int .i64 d] 28)) (g := w.heap.size + 1) (by simp) 26 #[.int .i64 n0, .int .i64 n1, .int .i64 n2]).alloc (.cells #[.int .i64 0, .int .i64 0, .int .i64 0, .int .i64 0] 28))
  have BR := (Blk.newAt (w := (w.alloc (.cells #[.int .i64 th, .int .i64 a, .int .i64 b, .int .i64 d] 28)).alloc (.cells #[.int .i64 n0, .int .i64 n1, .int .i64 n2] 26)) (g := w.heap.size + 1 + 1) (by simp) 28 #[.int .i64 0, .int .i64 0, .int .i64 0, .int .i64 0])
  go_wp2_with fail
  refine (HON.out _ _ (IsInts.of_blk3 BP)).mono ?_
  rintro e w1 ⟨rfl, hb1⟩
  rw [HB.out]
  have hw1 : Below w.heap.size w w1 := by (repeat' (first | (with_reducible exact Below.refl _ _) | (with_reducible assumption) | (with_reducible refine Below.next ?_ (by with_reducible assumption)) | (with_reducible refine Below.drew ?_) | (with_reducible refine Below.laid ?_ _) | (with_reducible refine Below.setCell ?_ ?_ _) | (with_reducible refine size_of ?_) | (with_reducible refine Nat.le_succ_of_le ?_) | go_size))
  replace BW := BW.keep hb1
  replace BP := BP.keep hb1
  replace BR := BR.keep hb1
  obtain ⟨c0, c1, c2, c3⟩ := BW.cells4
  go_wp2_with fail
  refine (term_World _ _ _ _ _).mono ?_
  rintro e w2 ⟨rfl, hb2⟩
  rw [HX.out]
  have hw2 := Below.next hw1 hb2
  have hb2s : w.heap.size + 1 + 1 < w2.heap.size ∧ True := ⟨Nat.lt_of_lt_of_le BR.lt hb2.size, trivial⟩
  replace BW := BW.keep hb2
  replace BP := BP.keep hb2
  replace BR := BR.keep hb2
  clear c0 c1 c2 c3 hb1 hb2 hw1
  obtain ⟨c0, c1, c2, c3⟩ := BW.cells4
  have bl := BW.lt
  go_upto_region 8 with (fail)
  have BO := Blk.new w2 28 #[.int .i64 th, .int .i64 0, .int .i64 0, .int .i64 0]
  have hw3 : Below w.heap.size w (w2.alloc (.cells #[.int .i64 th, .int .i64 0, .int .i64 0, .int .i64 0] 28)) := by (repeat' (first | (with_reducible exact Below.refl _ _) | (with_reducible assumption) | (with_reducible refine Below.next ?_ (by with_reducible assumption)) | (with_reducible refine Below.drew ?_) | (with_reducible refine Below.laid ?_ _) | (with_reducible refine Below.setCell ?_ ?_ _) | (with_reducible refine size_of ?_) | (with_reducible refine Nat.le_succ_of_le ?_) | go_size))
  replace BP := BP.alloc (.cells #[.int .i64 th, .int .i64 0, .int .i64 0, .int .i64 0] 28)
  replace BR := BR.alloc (.cells #[.int .i64 th, .int .i64 0, .int .i64 0, .int .i64 0] 28)
  have hlo := hw2.size
  have hrl := BR.lt
  have hro : w.heap.size + 1 + 1 < w2.heap.size := by
    have := hb2s.1
    omega
  clear c0 c1 c2 c3 bl BW
  revert BO hw3 BP BR hrl
  generalize w2.alloc _ = w3
  intro BO hw3 BP BR hrl
  rcases H6.out with ⟨rfl, rfl, rfl⟩ | ⟨rfl, rfl, rfl⟩ | ⟨rfl, rfl, rfl⟩ | ⟨rfl, rfl, rfl⟩ | ⟨rfl, rfl, rfl⟩ | ⟨rfl, rfl, rfl⟩
  · refine wp_loop_rounds 4 ?_
    have x0 := idx3_0 a b d
    have x1 := idx3_1 a b d
    have x2 := idx3_2 a b d
    have o0 := BO.cell 0
    have o1 := BO.frozen 1
    have o2 := BO.frozen 2
    have o3 := BO.frozen 3
    have p0 := BP.cell 0
    have p1 := BP.cell 1
    have p2 := BP.cell 2
    have k1 := BO.cell 1
    have k2 := BO.cell 2
    have k3 := BO.cell 3
    rw [rounds_succ]
    go_wp2
    rw [rounds_succ]
    go_wp2
    rw [rounds_succ]
    go_wp2
    have BO4 : Blk (((w3.setCell ⟨w2.heap.size, 1, none⟩ (.int .i64 a)).setCell ⟨w2.heap.size, 2, none⟩ (.int .i64 b)).setCell ⟨w2.heap.size, 3, none⟩ (.int .i64 d)) w2.heap.size 28 #[.int .i64 th, .int .i64 a, .int .i64 b, .int .i64 d] := by
      have := ((BO.set_ 1 (.int .i64 a)).set_ 2 (.int .i64 b)).set_ 3 (.int .i64 d)
      simpa using this
    have BR4 := ((BR.far (p := ⟨w2.heap.size, 1, none⟩) (by show ¬ _ = w2.heap.size; omega) (.int .i64 a)).far (p := ⟨w2.heap.size, 2, none⟩) (by show ¬ _ = w2.heap.size; omega) (.int .i64 b)).far (p := ⟨w2.heap.size, 3, none⟩) (by show ¬ _ = w2.heap.size; omega) (.int .i64 d)
    have hw4 := ((hw3.setCell (p := ⟨w2.heap.size, 1, none⟩) hlo (.int .i64 a)).setCell (p := ⟨w2.heap.size, 2, none⟩) hlo (.int .i64 b)).setCell (p := ⟨w2.heap.size, 3, none⟩) hlo (.int .i64 d)
    clear o0 o1 o2 o3 p0 p1 p2 k1 k2 k3 x0 x1 x2 BO BP BR hw3 hrl
    revert BO4 BR4 hw4
    generalize World.setCell _ _ _ = w4
    intro BO4 BR4 hw4
    rw [rounds_succ]
    obtain ⟨o0, o1, o2, o3⟩ := BO4.cells4
    have HRV := Lib.hid (show worldV (Venn.renW 0 1 ⟨th, a, b, d⟩) = .agg #[.int .i64 th, .int .i64 a, .int .i64 b, .int .i64 d] from rfl)
    obtain ⟨r0, r1, r2, r3⟩ := BR4.cells4
    have s0 := BR4.frozen 0
    have s1 := BR4.frozen 1
    have s2 := BR4.frozen 2
    have s3 := BR4.frozen 3
    have GL := below_set4 hw4 (show w.heap.size ≤ w.heap.size + 1 + 1 by omega) (.int .i64 th) (.int .i64 a) (.int .i64 b) (.int .i64 d)
    have GS := BR4.set4 (.int .i64 th) (.int .i64 a) (.int .i64 b) (.int .i64 d)
    go_wp2
    clear r0 r1 r2 r3 s0 s1 s2 s3 o0 o1 o2 o3
    revert GL GS
    generalize World.setCell _ _ _ = Wf
    intro GL GS
    obtain ⟨e0, e1, e2, e3⟩ := GS.cells4
    refine bodyPost_ret (v := .tuple #[.agg #[.int .i64 th, .int .i64 a, .int .i64 b, .int .i64 d], .nilIface]) (by simp [results, Tryd.results13, go_sem, e0, e1, e2, e3]) rfl ⟨by rw [HRV.out]; rfl, GL⟩
  · refine wp_loop_rounds 4 ?_
    have x0 := idx3_0 a b d
    have x1 := idx3_1 a b d
    have x2 := idx3_2 a b d
    have o0 := BO.cell 0
    have o1 := BO.frozen 1
    have o2 := BO.frozen 2
    have o3 := BO.frozen 3
    have p0 := BP.cell 0
    have p1 := BP.cell 1
    have p2 := BP.cell 2
    have k1 := BO.cell 1
    have k2 := BO.cell 2
    have k3 := BO.cell 3
    rw [rounds_succ]
    go_wp2
    rw [rounds_succ]
    go_wp2
    rw [rounds_succ]
    go_wp2
    have BO4 : Blk (((w3.setCell ⟨w2.heap.size, 1, none⟩ (.int .i64 a)).setCell ⟨w2.heap.size, 3, none⟩ (.int .i64 b)).setCell ⟨w2.heap.size, 2, none⟩ (.int .i64 d)) w2.heap.size 28 #[.int .i64 th, .int .i64 a, .int .i64 d, .int .i64 b] := by
      have := ((BO.set_ 1 (.int .i64 a)).set_ 3 (.int .i64 b)).set_ 2 (.int .i64 d)
      simpa using this
    have BR4 := ((BR.far (p := ⟨w2.heap.size, 1, none⟩) (by show ¬ _ = w2.heap.size; omega) (.int .i64 a)).far (p := ⟨w2.heap.size, 3, none⟩) (by show ¬ _ = w2.heap.size; omega) (.int .i64 b)).far (p := ⟨w2.heap.size, 2, none⟩) (by show ¬ _ = w2.heap.size; omega) (.int .i64 d)
    have hw4 := ((hw3.setCell (p := ⟨w2.heap.size, 1, none⟩) hlo (.int .i64 a)).setCell (p := ⟨w2.heap.size, 3, none⟩) hlo (.int .i64 b)).setCell (p := ⟨w2.heap.size, 2, none⟩) hlo (.int .i64 d)
    clear o0 o1 o2 o3 p0 p1 p2 k1 k2 k3 x0 x1 x2 BO BP BR hw3 hrl
    revert BO4 BR4 hw4
    generalize World.setCell _ _ _ = w4
    intro BO4 BR4 hw4
    rw [rounds_succ]
    obtain ⟨o0, o1, o2, o3⟩ := BO4.cells4
    have HRV := Lib.hid (show worldV (Venn.renW 0 2 ⟨th, a, b, d⟩) = .agg #[.int .i64 th, .int .i64 a, .int .i64 d, .int .i64 b] from rfl)
    obtain ⟨r0, r1, r2, r3⟩ := BR4.cells4
    have s0 := BR4.frozen 0
    have s1 := BR4.frozen 1
    have s2 := BR4.frozen 2
    have s3 := BR4.frozen 3
    have GL := below_set4 hw4 (show w.heap.size ≤ w.heap.size + 1 + 1 by omega) (.int .i64 th) (.int .i64 a) (.int .i64 d) (.int .i64 b)
    have GS := BR4.set4 (.int .i64 th) (.int .i64 a) (.int .i64 d) (.int .i64 b)
    go_wp2
    clear r0 r1 r2 r3 s0 s1 s2 s3 o0 o1 o2 o3
    revert GL GS
    generalize World.setCell _ _ _ = Wf
    intro GL GS
    obtain ⟨e0, e1, e2, e3⟩ := GS.cells4
    refine bodyPost_ret (v := .tuple #[.agg #[.int .i64 th, .int .i64 a, .int .i64 d, .int .i64 b], .nilIface]) (by simp [results, Tryd.results13, go_sem, e0, e1, e2, e3]) rfl ⟨by rw [HRV.out]; rfl, GL⟩
  · refine wp_loop_rounds 4 ?_
    have x0 := idx3_0 a b d
    have x1 := idx3_1 a b d
    have x2 := idx3_2 a b d
    have o0 := BO.cell 0
    have o1 := BO.frozen 1
    have o2 := BO.frozen 2
    have o3 := BO.frozen 3
    have p0 := BP.cell 0
    have p1 := BP.cell 1
    have p2 := BP.cell 2
    have k1 := BO.cell 1
    have k2 := BO.cell 2
    have k3 := BO.cell 3
    rw [rounds_succ]
    go_wp2
    rw [rounds_succ]
    go_wp2
    rw [rounds_succ]
    go_wp2
    have BO4 : Blk (((w3.setCell ⟨w2.heap.size, 2, none⟩ (.int .i64 a)).setCell ⟨w2.heap.size, 1, none⟩ (.int .i64 b)).setCell ⟨w2.heap.size, 3, none⟩ (.int .i64 d)) w2.heap.size 28 #[.int .i64 th, .int .i64 b, .int .i64 a, .int .i64 d] := by
      have := ((BO.set_ 2 (.int .i64 a)).set_ 1 (.int .i64 b)).set_ 3 (.int .i64 d)
      simpa using this
    have BR4 := ((BR.far (p := ⟨w2.heap.size, 2, none⟩) (by show ¬ _ = w2.heap.size; omega) (.int .i64 a)).far (p := ⟨w2.heap.size, 1, none⟩) (by show ¬ _ = w2.heap.size; omega) (.int .i64 b)).far (p := ⟨w2.heap.size, 3, none⟩) (by show ¬ _ = w2.heap.size; omega) (.int .i64 d)
    have hw4 := ((hw3.setCell (p := ⟨w2.heap.size, 2, none⟩) hlo (.int .i64 a)).setCell (p := ⟨w2.heap.size, 1, none⟩) hlo (.int .i64 b)).setCell (p := ⟨w2.heap.size, 3, none⟩) hlo (.int .i64 d)
    clear o0 o1 o2 o3 p0 p1 p2 k1 k2 k3 x0 x1 x2 BO BP BR hw3 hrl
    revert BO4 BR4 hw4
    generalize World.setCell _ _ _ = w4
    intro BO4 BR4 hw4
    rw [rounds_succ]
    obtain ⟨o0, o1, o2, o3⟩ := BO4.cells4
    have HRV := Lib.hid (show worldV (Venn.renW 1 0 ⟨th, a, b, d⟩) = .agg #[.int .i64 th, .int .i64 b, .int .i64 a, .int .i64 d] from rfl)
    obtain ⟨r0, r1, r2, r3⟩ := BR4.cells4
    have s0 := BR4.frozen 0
    have s1 := BR4.frozen 1
    have s2 := BR4.frozen 2
    have s3 := BR4.frozen 3
    have GL := below_set4 hw4 (show w.heap.size ≤ w.heap.size + 1 + 1 by omega) (.int .i64 th) (.int .i64 b) (.int .i64 a) (.int .i64 d)
    have GS := BR4.set4 (.int .i64 th) (.int .i64 b) (.int .i64 a) (.int .i64 d)
    go_wp2
    clear r0 r1 r2 r3 s0 s1 s2 s3 o0 o1 o2 o3
    revert GL GS
    generalize World.setCell _ _ _ = Wf
    intro GL GS
    obtain ⟨e0, e1, e2, e3⟩ := GS.cells4
    refine bodyPost_ret (v := .tuple #[.agg #[.int .i64 th, .int .i64 b, .int .i64 a, .int .i64 d], .nilIface]) (by simp [results, Tryd.results13, go_sem, e0, e1, e2, e3]) rfl ⟨by rw [HRV.out]; rfl, GL⟩
  · refine wp_loop_rounds 4 ?_
    have x0 := idx3_0 a b d
    have x1 := idx3_1 a b d
    have x2 := idx3_2 a b d
    have o0 := BO.cell 0
    have o1 := BO.frozen 1
    have o2 := BO.frozen 2
    have o3 := BO.frozen 3
    have p0 := BP.cell 0
    have p1 := BP.cell 1
    have p2 := BP.cell 2
    have k1 := BO.cell 1
    have k2 := BO.cell 2
    have k3 := BO.cell 3
    rw [rounds_succ]
    go_wp2
    rw [rounds_succ]
    go_wp2
    rw [rounds_succ]
    go_wp2
    have BO4 : Blk (((w3.setCell ⟨w2.heap.size, 2, none⟩ (.int .i64 a)).setCell ⟨w2.heap.size, 3, none⟩ (.int .i64 b)).setCell ⟨w2.heap.size, 1, none⟩ (.int .i64 d)) w2.heap.size 28 #[.int .i64 th, .int .i64 d, .int .i64 a, .int .i64 b] := by
      have := ((BO.set_ 2 (.int .i64 a)).set_ 3 (.int .i64 b)).set_ 1 (.int .i64 d)
      simpa using this
    have BR4 := ((BR.far (p := ⟨w2.heap.size, 2, none⟩) (by show ¬ _ = w2.heap.size; omega) (.int .i64 a)).far (p := ⟨w2.heap.size, 3, none⟩) (by show ¬ _ = w2.heap.size; omega) (.int .i64 b)).far (p := ⟨w2.heap.size, 1, none⟩) (by show ¬ _ = w2.heap.size; omega) (.int .i64 d)
    have hw4 := ((hw3.setCell (p := ⟨w2.heap.size, 2, none⟩) hlo (.int .i64 a)).setCell (p := ⟨w2.heap.size, 3, none⟩) hlo (.int .i64 b)).setCell (p := ⟨w2.heap.size, 1, none⟩) hlo (.int .i64 d)
    clear o0 o1 o2 o3 p0 p1 p2 k1 k2 k3 x0 x1 x2 BO BP BR hw3 hrl
    revert BO4 BR4 hw4
    generalize World.setCell _ _ _ = w4
    intro BO4 BR4 hw4
    rw [rounds_succ]
    obtain ⟨o0, o1, o2, o3⟩ := BO4.cells4
    have HRV := Lib.hid (show worldV (Venn.renW 1 2 ⟨th, a, b, d⟩) = .agg #[.int .i64 th, .int .i64 d, .int .i64 a, .int .i64 b] from rfl)
    obtain ⟨r0, r1, r2, r3⟩ := BR4.cells4
    have s0 := BR4.frozen 0
    have s1 := BR4.frozen 1
    have s2 := BR4.frozen 2
    have s3 := BR4.frozen 3
    have GL := below_set4 hw4 (show w.heap.size ≤ w.heap.size + 1 + 1 by omega) (.int .i64 th) (.int .i64 d) (.int .i64 a) (.int .i64 b)
    have GS := BR4.set4 (.int .i64 th) (.int .i64 d) (.int .i64 a) (.int .i64 b)
    go_wp2
    clear r0 r1 r2 r3 s0 s1 s2 s3 o0 o1 o2 o3
    revert GL GS
    generalize World.setCell _ _ _ = Wf
    intro GL GS
    obtain ⟨e0, e1, e2, e3⟩ := GS.cells4
    refine bodyPost_ret (v := .tuple #[.agg #[.int .i64 th, .int .i64 d, .int .i64 a, .int .i64 b], .nilIface]) (by simp [results, Tryd.results13, go_sem, e0, e1, e2, e3]) rfl ⟨by rw [HRV.out]; rfl, GL⟩
  · refine wp_loop_rounds 4 ?_
    have x0 := idx3_0 a b d
    have x1 := idx3_1 a b d
    have x2 := idx3_2 a b d
    have o0 := BO.cell 0
    have o1 := BO.frozen 1
    have o2 := BO.frozen 2
    have o3 := BO.frozen 3
    have p0 := BP.cell 0
    have p1 := BP.cell 1
    have p2 := BP.cell 2
    have k1 := BO.cell 1
    have k2 := BO.cell 2
    have k3 := BO.cell 3
    rw [rounds_succ]
    go_wp2
    rw [rounds_succ]
    go_wp2
    rw [rounds_succ]
    go_wp2
    have BO4 : Blk (((w3.setCell ⟨w2.heap.size, 3, none⟩ (.int .i64 a)).setCell ⟨w2.heap.size, 1, none⟩ (.int .i64 b)).setCell ⟨w2.heap.size, 2, none⟩ (.int .i64 d)) w2.heap.size 28 #[.int .i64 th, .int .i64 b, .int .i64 d, .int .i64 a] := by
      have := ((BO.set_ 3 (.int .i64 a)).set_ 1 (.int .i64 b)).set_ 2 (.int .i64 d)
      simpa using this
    have BR4 := ((BR.far (p := ⟨w2.heap.size, 3, none⟩) (by show ¬ _ = w2.heap.size; omega) (.int .i64 a)).far (p := ⟨w2.heap.size, 1, none⟩) (by show ¬ _ = w2.heap.size; omega) (.int .i64 b)).far (p := ⟨w2.heap.size, 2, none⟩) (by show ¬ _ = w2.heap.size; omega) (.int .i64 d)
    have hw4 := ((hw3.setCell (p := ⟨w2.heap.size, 3, none⟩) hlo (.int .i64 a)).setCell (p := ⟨w2.heap.size, 1, none⟩) hlo (.int .i64 b)).setCell (p := ⟨w2.heap.size, 2, none⟩) hlo (.int .i64 d)
    clear o0 o1 o2 o3 p0 p1 p2 k1 k2 k3 x0 x1 x2 BO BP BR hw3 hrl
    revert BO4 BR4 hw4
    generalize World.setCell _ _ _ = w4
    intro BO4 BR4 hw4
    rw [rounds_succ]
    obtain ⟨o0, o1, o2, o3⟩ := BO4.cells4
    have HRV := Lib.hid (show worldV (Venn.renW 2 0 ⟨th, a, b, d⟩) = .agg #[.int .i64 th, .int .i64 b, .int .i64 d, .int .i64 a] from rfl)
    obtain ⟨r0, r1, r2, r3⟩ := BR4.cells4
    have s0 := BR4.frozen 0
    have s1 := BR4.frozen 1
    have s2 := BR4.frozen 2
    have s3 := BR4.frozen 3
    have GL := below_set4 hw4 (show w.heap.size ≤ w.heap.size + 1 + 1 by omega) (.int .i64 th) (.int .i64 b) (.int .i64 d) (.int .i64 a)
    have GS := BR4.set4 (.int .i64 th) (.int .i64 b) (.int .i64 d) (.int .i64 a)
    go_wp2
    clear r0 r1 r2 r3 s0 s1 s2 s3 o0 o1 o2 o3
    revert GL GS
    generalize World.setCell _ _ _ = Wf
    intro GL GS
    obtain ⟨e0, e1, e2, e3⟩ := GS.cells4
    refine bodyPost_ret (v := .tuple #[.agg #[.int .i64 th, .int .i64 b, .int .i64 d, .int .i64 a], .nilIface]) (by simp [results, Tryd.results13, go_sem, e0, e1, e2, e3]) rfl ⟨by rw [HRV.out]; rfl, GL⟩
  · refine wp_loop_rounds 4 ?_
    have x0 := idx3_0 a b d
    have x1 := idx3_1 a b d
    have x2 := idx3_2 a b d
    have o0 := BO.cell 0
    have o1 := BO.frozen 1
    have o2 := BO.frozen 2
    have o3 := BO.frozen 3
    have p0 := BP.cell 0
    have p1 := BP.cell 1
    have p2 := BP.cell 2
    have k1 := BO.cell 1
    have k2 := BO.cell 2
    have k3 := BO.cell 3
    rw [rounds_succ]
    go_wp2
    rw [rounds_succ]
    go_wp2
    rw [rounds_succ]
    go_wp2
    have BO4 : Blk (((w3.setCell ⟨w2.heap.size, 3, none⟩ (.int .i64 a)).setCell ⟨w2.heap.size, 2, none⟩ (.int .i64 b)).setCell ⟨w2.heap.size, 1, none⟩ (.int .i64 d)) w2.heap.size 28 #[.int .i64 th, .int .i64 d, .int .i64 b, .int .i64 a] := by
      have := ((BO.set_ 3 (.int .i64 a)).set_ 2 (.int .i64 b)).set_ 1 (.int .i64 d)
      simpa using this
    have BR4 := ((BR.far (p := ⟨w2.heap.size, 3, none⟩) (by show ¬ _ = w2.heap.size; omega) (.int .i64 a)).far (p := ⟨w2.heap.size, 2, none⟩) (by show ¬ _ = w2.heap.size; omega) (.int .i64 b)).far (p := ⟨w2.heap.size, 1, none⟩) (by show ¬ _ = w2.heap.size; omega) (.int .i64 d)
    have hw4 := ((hw3.setCell (p := ⟨w2.heap.size, 3, none⟩) hlo (.int .i64 a)).setCell (p := ⟨w2.heap.size, 2, none⟩) hlo (.int .i64 b)).setCell (p := ⟨w2.heap.size, 1, none⟩) hlo (.int .i64 d)
    clear o0 o1 o2 o3 p0 p1 p2 k1 k2 k3 x0 x1 x2 BO BP BR hw3 hrl
    revert BO4 BR4 hw4
    generalize World.setCell _ _ _ = w4
    intro BO4 BR4 hw4
    rw [rounds_succ]
    obtain ⟨o0, o1, o2, o3⟩ := BO4.cells4
    have HRV := Lib.hid (show worldV (Venn.renW 2 1 ⟨th, a, b, d⟩) = .agg #[.int .i64 th, .int .i64 d, .int .i64 b, .int .i64 a] from rfl)
    obtain ⟨r0, r1, r2, r3⟩ := BR4.cells4
    have s0 := BR4.frozen 0
    have s1 := BR4.frozen 1
    have s2 := BR4.frozen 2
    have s3 := BR4.frozen 3
    have GL := below_set4 hw4 (show w.heap.size ≤ w.heap.size + 1 + 1 by omega) (.int .i64 th) (.int .i64 d) (.int .i64 b) (.int .i64 a)
    have GS := BR4.set4 (.int .i64 th) (.int .i64 d) (.int .i64 b) (.int .i64 a)
    go_wp2
    clear r0 r1 r2 r3 s0 s1 s2 s3 o0 o1 o2 o3
    revert GL GS
    generalize World.setCell _ _ _ = Wf
    intro GL GS
    obtain ⟨e0, e1, e2, e3⟩ := GS.cells4
    refine bodyPost_ret (v := .tuple #[.agg #[.int .i64 th, .int .i64 d, .int .i64 b, .int .i64 a], .nilIface]) (by simp [results, Tryd.results13, go_sem, e0, e1, e2, e3]) rfl ⟨by rw [HRV.out]; rfl, GL⟩
end Go.Proofs.YtlpfbdejiifbpaaDoor
