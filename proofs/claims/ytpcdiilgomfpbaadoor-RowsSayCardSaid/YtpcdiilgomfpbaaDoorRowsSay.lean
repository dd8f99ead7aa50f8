/-
  PROVED: vennlaw1.RowsSay answers true, at any atom and world. No condition beyond the card's own list.
-/
import Derived.Test.YtpcdiilgomfpbaaDoorFields
import Derived.Test.YtpcdiilgomfpbaaDoorRowOf
import Derived.Test.YtpcdiilgomfpbaaDoorRowsApp
import Derived.Test.YtpcdiilgomfpbaaDoorKindsLaw
import Derived.Test.YtpcdiilgomfpbaaDoorOpenW
import Derived.Test.YtpcdiilgomfpbaaDoorSome
import Derived.BigQuiet
namespace Go.Proofs.YtpcdiilgomfpbaaDoor
open Go.ChangeShapes Go.WideShapes Go.ChangeAt Go.RowKit

theorem row_ok {a : Venn.Atom} (ha : Venn.atomChk a = 0) (h : Bool) : Venn.rowOk (Venn.rowL a h) = true := by
  obtain ⟨_, _, _, _, _, h1, h2, _⟩ := Venn.atomChk_parts ha
  have ht : ∀ f, -1 ≤ Venn.rowT a h f ∧ Venn.rowT a h f ≤ 1 := fun f => by
    have := Venn.timesAt_range a.what (Venn.mask a.s) (Venn.tMask a) f
    unfold Venn.rowT
    split <;> omega
  have hm : -100 ≤ Venn.rowM a h ∧ Venn.rowM a h ≤ 100 := by
    unfold Venn.rowM
    split <;> split <;> omega
  have h0 := ht 0; have g1 := ht 1; have g2 := ht 2; have h3 := ht 3; have h4 := ht 4; have h5 := ht 5; have h6 := ht 6; have h7 := ht 7
  simp only [Venn.rowL, Venn.rowOk, Bool.and_eq_true, decide_eq_true_eq]
  refine ⟨⟨⟨⟨⟨⟨⟨⟨?_, ?_⟩, ?_⟩, ?_⟩, ?_⟩, ?_⟩, ?_⟩, ?_⟩, ?_⟩ <;> omega
theorem row_fits {a : Venn.Atom} (ha : Venn.atomChk a = 0) {W : Venn.World} (hw : Venn.worldChk W = 0) (h : Bool) :
    Venn.fitsChk [Venn.rowL a h] (Venn.fieldsOf W) = 0 ∧ Venn.fitsV [Venn.rowL a h] (Venn.fieldsOf W) = (Venn.atomTrue a W == h) := by
  have hr : Venn.rowsChk [Venn.rowL a h] = 0 := by
    unfold Venn.rowsChk
    rw [if_neg (by simp), if_pos (by simp [row_ok ha h])]
  have hc : Venn.fitsChk [Venn.rowL a h] (Venn.fieldsOf W) = 0 := by rw [Venn.fitsChk, if_pos hr]; exact Venn.fieldsOf_chk hw
  refine ⟨hc, ?_⟩
  rw [Venn.fitsV, if_pos hc]
  simp only [Venn.rowsSo, List.all_cons, List.all_nil, Bool.and_true]
  exact Venn.row_says ha hw h
theorem IsRows.one {w : World} {g : Nat} {t : TypeId} {l : List Int} (h : Blk w g t (l.map (Value.int .i64)).toArray) (h9 : l.length = 9) : IsRows w (.slice (some ⟨g, 0, none⟩) 1 1) [l] := by
  refine ⟨_, _, rfl, fun j u hj => ⟨_, rfl, ?_⟩, by simp [h9], Nat.le_refl _, by simp [maxLen]⟩
  simp at hj
  have := h.cell j
  rw [show (⟨g, 0, none⟩ : Addr).add j = ⟨g, j, none⟩ by unfold Addr.add; split <;> simp_all]
  rw [this]
  simpa using hj
theorem rowOfV_L {a : Venn.Atom} (ha : Venn.atomChk a = 0) (h : Bool) : rowOfV a h = .agg ((Venn.rowL a h).map (Value.int .i64)).toArray := by rw [rowOfV, if_pos ha]; rfl

set_option maxHeartbeats 4000000 in
set_option maxRecDepth 100000 in
theorem rowsSay_walk (what n : Int) (sv tv : Value) (s t : List Int) (th a b d : Int) (w : World) (hs : IsInts w sv s) (ht : IsInts w tv t) (hk : KindsOk w) :
    Calls Tryd.prog 12 #[.agg #[.int .i64 what, sv, tv, .int .i64 n], .agg #[.int .i64 th, .int .i64 a, .int .i64 b, .int .i64 d]] w (Keeps (.bool true) w) := by
  obtain ⟨sA, sc, rfl, hs'⟩ := hs
  obtain ⟨tA, tc, rfl, ht'⟩ := ht
  have HSS := Lib.hid (show IsInts w (.slice sA s.length sc) s from ⟨sA, sc, rfl, hs'⟩)
  have HTT := Lib.hid (show IsInts w (.slice tA t.length tc) t from ⟨tA, tc, rfl, ht'⟩)
  have HK := Lib.hid hk
  clear hs' ht' hk
  have HL1 := Lib.hid (show rowOfV ⟨3, [0], [], 2⟩ true = .agg #[.int .i64 0, .int .i64 (-1), .int .i64 0, .int .i64 (-1), .int .i64 0, .int .i64 (-1), .int .i64 0, .int .i64 (-1), .int .i64 (-2)] by
    rw [rowOfV_L (by decide)]; rfl)
  have HL2 := Lib.hid (show errV (Venn.atomChk ⟨3, [0], [], 2⟩) = .nilIface from rfl)
  go_enter Tryd.func12, Tryd.ntmps12
  go_wp2_with fail
  refine (rows_Of _ _ _ _ [0] [] true _ (IsInts.of_blk1 (Blk.newAt (by simp) _ _)) (IsIntsNil _) (HK.out.keep (by (repeat' (first | (with_reducible exact Below.refl _ _) | (with_reducible refine Below.next ?_ (by with_reducible assumption)) | (with_reducible refine Below.drew ?_) | (with_reducible refine Below.laid ?_ _) | (with_reducible refine Below.setCell ?_ ?_ _) | (with_reducible refine size_of ?_) | (with_reducible refine Nat.le_succ_of_le ?_) | go_size))))).mono ?_
  rintro e w1 ⟨rfl, hb1⟩
  rw [HL1.out, HL2.out]
  have hbw1 : Below w.heap.size w w1 := by (repeat' (first | (with_reducible exact Below.refl _ _) | (with_reducible refine Below.next ?_ (by with_reducible assumption)) | (with_reducible refine Below.drew ?_) | (with_reducible refine Below.laid ?_ _) | (with_reducible refine Below.setCell ?_ ?_ _) | (with_reducible refine size_of ?_) | (with_reducible refine Nat.le_succ_of_le ?_) | go_size))
  have BA := (((Blk.new w 47 #[.int .i64 what, .slice sA s.length sc, .slice tA t.length tc, .int .i64 n]).alloc _).alloc _).keep hb1
  have BW := ((Blk.newAt (w := w.alloc (.cells #[.int .i64 what, .slice sA s.length sc, .slice tA t.length tc, .int .i64 n] 47)) (g := w.heap.size + 1) (by simp) 41 #[.int .i64 th, .int .i64 a, .int .i64 b, .int .i64 d]).alloc _).keep hb1
  obtain ⟨a0, a1, a2, a3⟩ := BA.cells4
  obtain ⟨⟨c0, c1, c2, c3, c4, c5, c6, c7, c8⟩, _⟩ := (Blk.new w1 92 #[.int .i64 0, .int .i64 (-1), .int .i64 0, .int .i64 (-1), .int .i64 0, .int .i64 (-1), .int .i64 0, .int .i64 (-1), .int .i64 (-2)]).cells9
  have hlA := BA.lt
  have hlW := BW.lt
  go_wp2_with fail
  refine (rows_Of _ _ _ _ s t true _ (HSS.out.keep (by (repeat' (first | (with_reducible exact Below.refl _ _) | (with_reducible refine Below.next ?_ (by with_reducible assumption)) | (with_reducible refine Below.drew ?_) | (with_reducible refine Below.laid ?_ _) | (with_reducible refine Below.setCell ?_ ?_ _) | (with_reducible refine size_of ?_) | (with_reducible refine Nat.le_succ_of_le ?_) | go_size)))) (HTT.out.keep (by (repeat' (first | (with_reducible exact Below.refl _ _) | (with_reducible refine Below.next ?_ (by with_reducible assumption)) | (with_reducible refine Below.drew ?_) | (with_reducible refine Below.laid ?_ _) | (with_reducible refine Below.setCell ?_ ?_ _) | (with_reducible refine size_of ?_) | (with_reducible refine Nat.le_succ_of_le ?_) | go_size)))) (HK.out.keep (by (repeat' (first | (with_reducible exact Below.refl _ _) | (with_reducible refine Below.next ?_ (by with_reducible assumption)) | (with_reducible refine Below.drew ?_) | (with_reducible refine Below.laid ?_ _) | (with_reducible refine Below.setCell ?_ ?_ _) | (with_reducible refine size_of ?_) | (with_reducible refine Nat.le_succ_of_le ?_) | go_size))))).mono ?_
  rintro e w2 ⟨rfl, hb2⟩
  clear a0 a1 a2 a3 c0 c1 c2 c3 c4 c5 c6 c7 c8 hlA hlW
  have BA2 := (BA.alloc _).keep hb2
  have BW2 := (BW.alloc _).keep hb2
  have hbw2 : Below w.heap.size w w2 := by (repeat' (first | (with_reducible exact Below.refl _ _) | (with_reducible refine Below.next ?_ (by with_reducible assumption)) | (with_reducible refine Below.drew ?_) | (with_reducible refine Below.laid ?_ _) | (with_reducible refine Below.setCell ?_ ?_ _) | (with_reducible refine size_of ?_) | (with_reducible refine Nat.le_succ_of_le ?_) | go_size))
  clear hb1 hb2 BA BW hbw1
  obtain ⟨a0, a1, a2, a3⟩ := BA2.cells4
  have hlA := BA2.lt
  have hlW := BW2.lt
  by_cases hc : Venn.atomChk ⟨what, s, t, n⟩ = 0
  · have HX := Lib.hid (errV_zero hc)
    obtain ⟨x0, x1, x2, x3, x4, x5, x6, x7, x8, hx⟩ : ∃ x0 x1 x2 x3 x4 x5 x6 x7 x8 : Int, Venn.rowL ⟨what, s, t, n⟩ true = [x0, x1, x2, x3, x4, x5, x6, x7, x8] := ⟨_, _, _, _, _, _, _, _, _, rfl⟩
    obtain ⟨y0, y1, y2, y3, y4, y5, y6, y7, y8, hy⟩ : ∃ y0 y1 y2 y3 y4 y5 y6 y7 y8 : Int, Venn.rowL ⟨what, s, t, n⟩ false = [y0, y1, y2, y3, y4, y5, y6, y7, y8] := ⟨_, _, _, _, _, _, _, _, _, rfl⟩
    have HR1 := Lib.hid (show rowOfV ⟨what, s, t, n⟩ true = .agg #[.int .i64 x0, .int .i64 x1, .int .i64 x2, .int .i64 x3, .int .i64 x4, .int .i64 x5, .int .i64 x6, .int .i64 x7, .int .i64 x8] by rw [rowOfV_L hc, hx]; rfl)
    have HR2 := Lib.hid (show rowOfV ⟨what, s, t, n⟩ false = .agg #[.int .i64 y0, .int .i64 y1, .int .i64 y2, .int .i64 y3, .int .i64 y4, .int .i64 y5, .int .i64 y6, .int .i64 y7, .int .i64 y8] by rw [rowOfV_L hc, hy]; rfl)
    rw [HX.out, HR1.out]
    by_cases hw : ¬ Venn.worldChk ⟨th, a, b, d⟩ = 0
    · have HH := Lib.hid (show errV (Venn.holdsChk ⟨what, s, t, n⟩ ⟨th, a, b, d⟩) = .iface 111 (.int .i64 (Venn.worldChk ⟨th, a, b, d⟩)) by rw [Venn.holdsChk, if_pos hc, errV_ne hw])
      clear hc hw hx hy
      go_wp2_with fail
      refine (rows_Of _ _ _ _ s t false _ (HSS.out.keep (by (repeat' (first | (with_reducible exact Below.refl _ _) | (with_reducible refine Below.next ?_ (by with_reducible assumption)) | (with_reducible refine Below.drew ?_) | (with_reducible refine Below.laid ?_ _) | (with_reducible refine Below.setCell ?_ ?_ _) | (with_reducible refine size_of ?_) | (with_reducible refine Nat.le_succ_of_le ?_) | go_size)))) (HTT.out.keep (by (repeat' (first | (with_reducible exact Below.refl _ _) | (with_reducible refine Below.next ?_ (by with_reducible assumption)) | (with_reducible refine Below.drew ?_) | (with_reducible refine Below.laid ?_ _) | (with_reducible refine Below.setCell ?_ ?_ _) | (with_reducible refine size_of ?_) | (with_reducible refine Nat.le_succ_of_le ?_) | go_size)))) (HK.out.keep (by (repeat' (first | (with_reducible exact Below.refl _ _) | (with_reducible refine Below.next ?_ (by with_reducible assumption)) | (with_reducible refine Below.drew ?_) | (with_reducible refine Below.laid ?_ _) | (with_reducible refine Below.setCell ?_ ?_ _) | (with_reducible refine size_of ?_) | (with_reducible refine Nat.le_succ_of_le ?_) | go_size))))).mono ?_
      rintro e w3 ⟨rfl, hb3⟩
      rw [HX.out, HR2.out]
      have BA3 := (BA2.alloc _).keep hb3
      have BW3 := (BW2.alloc _).keep hb3
      clear a0 a1 a2 a3 hlA hlW
      obtain ⟨a0, a1, a2, a3⟩ := BA3.cells4
      obtain ⟨b0, b1, b2, b3⟩ := BW3.cells4
      have hlA := BA3.lt
      have hlW := BW3.lt
      go_wp2_with fail
      refine (atom_Holds _ _ _ _ s t _ _ _ _ _ (HSS.out.keep (by (repeat' (first | (with_reducible exact Below.refl _ _) | (with_reducible refine Below.next ?_ (by with_reducible assumption)) | (with_reducible refine Below.drew ?_) | (with_reducible refine Below.laid ?_ _) | (with_reducible refine Below.setCell ?_ ?_ _) | (with_reducible refine size_of ?_) | (with_reducible refine Nat.le_succ_of_le ?_) | go_size)))) (HTT.out.keep (by (repeat' (first | (with_reducible exact Below.refl _ _) | (with_reducible refine Below.next ?_ (by with_reducible assumption)) | (with_reducible refine Below.drew ?_) | (with_reducible refine Below.laid ?_ _) | (with_reducible refine Below.setCell ?_ ?_ _) | (with_reducible refine size_of ?_) | (with_reducible refine Nat.le_succ_of_le ?_) | go_size)))) (HK.out.keep (by (repeat' (first | (with_reducible exact Below.refl _ _) | (with_reducible refine Below.next ?_ (by with_reducible assumption)) | (with_reducible refine Below.drew ?_) | (with_reducible refine Below.laid ?_ _) | (with_reducible refine Below.setCell ?_ ?_ _) | (with_reducible refine size_of ?_) | (with_reducible refine Nat.le_succ_of_le ?_) | go_size))))).mono ?_
      rintro e w4 ⟨rfl, hb4⟩
      rw [HH.out]
      go_wp2_with fail
      go_quiet (fail)
      go_wp2
      go_ret
      exact ⟨by simp, below_drewN (by (repeat' (first | (with_reducible exact Below.refl _ _) | (with_reducible refine Below.next ?_ (by with_reducible assumption)) | (with_reducible refine Below.drew ?_) | (with_reducible refine Below.laid ?_ _) | (with_reducible refine Below.setCell ?_ ?_ _) | (with_reducible refine size_of ?_) | (with_reducible refine Nat.le_succ_of_le ?_) | go_size))) _⟩
    · replace hw := Decidable.not_not.1 hw
      have hh : Venn.holdsChk ⟨what, s, t, n⟩ ⟨th, a, b, d⟩ = 0 := by rw [Venn.holdsChk, if_pos hc]; exact hw
      have HH := Lib.hid (errV_zero hh)
      have HWX := Lib.hid (errV_zero hw)
      obtain ⟨v, hv⟩ : ∃ v, Venn.atomTrue ⟨what, s, t, n⟩ ⟨th, a, b, d⟩ = v := ⟨_, rfl⟩
      have HHV := Lib.hid (show Venn.holdsV ⟨what, s, t, n⟩ ⟨th, a, b, d⟩ = v by rw [Venn.holdsV, if_pos hh, hv])
      obtain ⟨m0, m1, m2, m3, m4, m5, m6, m7, hm⟩ : ∃ m0 m1 m2 m3 m4 m5 m6 m7 : Int, Venn.fieldsOf ⟨th, a, b, d⟩ = [m0, m1, m2, m3, m4, m5, m6, m7] := ⟨_, _, _, _, _, _, _, _, rfl⟩
      have HM := Lib.hid (show fieldsV ⟨th, a, b, d⟩ = [m0, m1, m2, m3, m4, m5, m6, m7] by rw [fieldsV, if_pos hw, hm])
      have HF1 := Lib.hid (row_fits hc hw true)
      have HF2 := Lib.hid (row_fits hc hw false)
      rw [hx, hm, hv] at HF1
      rw [hy, hm, hv] at HF2
      have HE1 := Lib.hid (errV_zero HF1.out.1)
      have HE2 := Lib.hid (errV_zero HF2.out.1)
      clear hc hw hh hx hy hm hv
      go_wp2_with fail
      refine (rows_Of _ _ _ _ s t false _ (HSS.out.keep (by (repeat' (first | (with_reducible exact Below.refl _ _) | (with_reducible refine Below.next ?_ (by with_reducible assumption)) | (with_reducible refine Below.drew ?_) | (with_reducible refine Below.laid ?_ _) | (with_reducible refine Below.setCell ?_ ?_ _) | (with_reducible refine size_of ?_) | (with_reducible refine Nat.le_succ_of_le ?_) | go_size)))) (HTT.out.keep (by (repeat' (first | (with_reducible exact Below.refl _ _) | (with_reducible refine Below.next ?_ (by with_reducible assumption)) | (with_reducible refine Below.drew ?_) | (with_reducible refine Below.laid ?_ _) | (with_reducible refine Below.setCell ?_ ?_ _) | (with_reducible refine size_of ?_) | (with_reducible refine Nat.le_succ_of_le ?_) | go_size)))) (HK.out.keep (by (repeat' (first | (with_reducible exact Below.refl _ _) | (with_reducible refine Below.next ?_ (by with_reducible assumption)) | (with_reducible refine Below.drew ?_) | (with_reducible refine Below.laid ?_ _) | (with_reducible refine Below.setCell ?_ ?_ _) | (with_reducible refine size_of ?_) | (with_reducible refine Nat.le_succ_of_le ?_) | go_size))))).mono ?_
      rintro e w3 ⟨rfl, hb3⟩
      rw [HX.out, HR2.out]
      have BA3 := (BA2.alloc _).keep hb3
      have BW3 := (BW2.alloc _).keep hb3
      have BX3 := (Blk.new w2 92 #[.int .i64 x0, .int .i64 x1, .int .i64 x2, .int .i64 x3, .int .i64 x4, .int .i64 x5, .int .i64 x6, .int .i64 x7, .int .i64 x8]).keep hb3
      have hbw3 : Below w.heap.size w w3 := by (repeat' (first | (with_reducible exact Below.refl _ _) | (with_reducible refine Below.next ?_ (by with_reducible assumption)) | (with_reducible refine Below.drew ?_) | (with_reducible refine Below.laid ?_ _) | (with_reducible refine Below.setCell ?_ ?_ _) | (with_reducible refine size_of ?_) | (with_reducible refine Nat.le_succ_of_le ?_) | go_size))
      clear a0 a1 a2 a3 hlA hlW BA2 BW2
      obtain ⟨a0, a1, a2, a3⟩ := BA3.cells4
      obtain ⟨b0, b1, b2, b3⟩ := BW3.cells4
      have hlA := BA3.lt
      have hlW := BW3.lt
      go_wp2_with fail
      refine (atom_Holds _ _ _ _ s t _ _ _ _ _ (HSS.out.keep (by (repeat' (first | (with_reducible exact Below.refl _ _) | (with_reducible refine Below.next ?_ (by with_reducible assumption)) | (with_reducible refine Below.drew ?_) | (with_reducible refine Below.laid ?_ _) | (with_reducible refine Below.setCell ?_ ?_ _) | (with_reducible refine size_of ?_) | (with_reducible refine Nat.le_succ_of_le ?_) | go_size)))) (HTT.out.keep (by (repeat' (first | (with_reducible exact Below.refl _ _) | (with_reducible refine Below.next ?_ (by with_reducible assumption)) | (with_reducible refine Below.drew ?_) | (with_reducible refine Below.laid ?_ _) | (with_reducible refine Below.setCell ?_ ?_ _) | (with_reducible refine size_of ?_) | (with_reducible refine Nat.le_succ_of_le ?_) | go_size)))) (HK.out.keep (by (repeat' (first | (with_reducible exact Below.refl _ _) | (with_reducible refine Below.next ?_ (by with_reducible assumption)) | (with_reducible refine Below.drew ?_) | (with_reducible refine Below.laid ?_ _) | (with_reducible refine Below.setCell ?_ ?_ _) | (with_reducible refine size_of ?_) | (with_reducible refine Nat.le_succ_of_le ?_) | go_size))))).mono ?_
      rintro e w4 ⟨rfl, hb4⟩
      rw [HH.out, HHV.out]
      have BW4 := (BW3.alloc _).keep hb4
      have BX4 := (BX3.alloc _).keep hb4
      have BY4 := (Blk.new w3 92 #[.int .i64 y0, .int .i64 y1, .int .i64 y2, .int .i64 y3, .int .i64 y4, .int .i64 y5, .int .i64 y6, .int .i64 y7, .int .i64 y8]).keep hb4
      have hbw4 : Below w.heap.size w w4 := by (repeat' (first | (with_reducible exact Below.refl _ _) | (with_reducible refine Below.next ?_ (by with_reducible assumption)) | (with_reducible refine Below.drew ?_) | (with_reducible refine Below.laid ?_ _) | (with_reducible refine Below.setCell ?_ ?_ _) | (with_reducible refine size_of ?_) | (with_reducible refine Nat.le_succ_of_le ?_) | go_size))
      clear a0 a1 a2 a3 b0 b1 b2 b3 hlA hlW BA3 BW3 BX3
      obtain ⟨b0, b1, b2, b3⟩ := BW4.cells4
      go_wp2_with fail
      refine (fields_Of _ _ _ _ _).mono ?_
      rintro e w5 ⟨rfl, hb5⟩
      rw [HM.out, HWX.out]
      simp only [cells, List.map]
      have BX5 := BX4.keep hb5
      have BY5 := BY4.keep hb5
      have hbw5 : Below w.heap.size w w5 := by (repeat' (first | (with_reducible exact Below.refl _ _) | (with_reducible refine Below.next ?_ (by with_reducible assumption)) | (with_reducible refine Below.drew ?_) | (with_reducible refine Below.laid ?_ _) | (with_reducible refine Below.setCell ?_ ?_ _) | (with_reducible refine size_of ?_) | (with_reducible refine Nat.le_succ_of_le ?_) | go_size))
      clear b0 b1 b2 b3 BW4 BX4 BY4
      obtain ⟨⟨c0, c1, c2, c3, c4, c5, c6, c7, c8⟩, _⟩ := BX5.cells9
      have hlX := BX5.lt
      have hlY := BY5.lt
      go_wp2_with fail
      refine (rows_Fits _ [[x0, x1, x2, x3, x4, x5, x6, x7, x8]] _ _ _ _ _ _ _ _ _ (IsRows.one (l := [x0, x1, x2, x3, x4, x5, x6, x7, x8]) (Blk.newAt (by simp) _ _) rfl)).mono ?_
      rintro e w6 ⟨rfl, hb6⟩
      rw [HE1.out, HF1.out.2]
      have BY6 := ((BY5.alloc _).alloc _).keep hb6
      have BN6 := ((Blk.new w5 23 #[.int .i64 m0, .int .i64 m1, .int .i64 m2, .int .i64 m3, .int .i64 m4, .int .i64 m5, .int .i64 m6, .int .i64 m7]).alloc _).keep hb6
      have hbw6 : Below w.heap.size w w6 := by (repeat' (first | (with_reducible exact Below.refl _ _) | (with_reducible refine Below.next ?_ (by with_reducible assumption)) | (with_reducible refine Below.drew ?_) | (with_reducible refine Below.laid ?_ _) | (with_reducible refine Below.setCell ?_ ?_ _) | (with_reducible refine size_of ?_) | (with_reducible refine Nat.le_succ_of_le ?_) | go_size))
      clear c0 c1 c2 c3 c4 c5 c6 c7 c8 hlX hlY BX5 BY5
      obtain ⟨⟨c0, c1, c2, c3, c4, c5, c6, c7, c8⟩, _⟩ := BY6.cells9
      obtain ⟨⟨d0, d1, d2, d3, d4, d5, d6, d7⟩, _⟩ := BN6.cells8
      have hlY := BY6.lt
      have hlN := BN6.lt
      go_wp2_with fail
      refine (rows_Fits _ [[y0, y1, y2, y3, y4, y5, y6, y7, y8]] _ _ _ _ _ _ _ _ _ (IsRows.one (l := [y0, y1, y2, y3, y4, y5, y6, y7, y8]) (Blk.newAt (by simp) _ _) rfl)).mono ?_
      rintro e w7 ⟨rfl, hb7⟩
      rw [HE2.out, HF2.out.2]
      clear c0 c1 c2 c3 c4 c5 c6 c7 c8 d0 d1 d2 d3 d4 d5 d6 d7 hlY hlN
      cases v
      · go_wp2
        go_ret
        exact ⟨by simp, by (repeat' (first | (with_reducible exact Below.refl _ _) | (with_reducible refine Below.next ?_ (by with_reducible assumption)) | (with_reducible refine Below.drew ?_) | (with_reducible refine Below.laid ?_ _) | (with_reducible refine Below.setCell ?_ ?_ _) | (with_reducible refine size_of ?_) | (with_reducible refine Nat.le_succ_of_le ?_) | go_size))⟩
      · go_wp2
        go_ret
        exact ⟨by simp, by (repeat' (first | (with_reducible exact Below.refl _ _) | (with_reducible refine Below.next ?_ (by with_reducible assumption)) | (with_reducible refine Below.drew ?_) | (with_reducible refine Below.laid ?_ _) | (with_reducible refine Below.setCell ?_ ?_ _) | (with_reducible refine size_of ?_) | (with_reducible refine Nat.le_succ_of_le ?_) | go_size))⟩
  · have HX := Lib.hid (errV_ne hc)
    have HZ1 := Lib.hid (show ∃ v, rowOfV ⟨what, s, t, n⟩ true = v from ⟨_, rfl⟩)
    have HR1 := Lib.hid (show rowOfV ⟨what, s, t, n⟩ true = rowZ by rw [rowOfV, if_neg hc])
    have HR2 := Lib.hid (show rowOfV ⟨what, s, t, n⟩ false = rowZ by rw [rowOfV, if_neg hc])
    have HH := Lib.hid (show errV (Venn.holdsChk ⟨what, s, t, n⟩ ⟨th, a, b, d⟩) = .iface 111 (.int .i64 (Venn.atomChk ⟨what, s, t, n⟩)) by rw [Venn.holdsChk, if_neg hc, errV_ne hc])
    clear hc
    rw [HX.out, HR1.out]
    unfold rowZ
    go_wp2_with fail
    refine (rows_Of _ _ _ _ s t false _ (HSS.out.keep (by (repeat' (first | (with_reducible exact Below.refl _ _) | (with_reducible refine Below.next ?_ (by with_reducible assumption)) | (with_reducible refine Below.drew ?_) | (with_reducible refine Below.laid ?_ _) | (with_reducible refine Below.setCell ?_ ?_ _) | (with_reducible refine size_of ?_) | (with_reducible refine Nat.le_succ_of_le ?_) | go_size)))) (HTT.out.keep (by (repeat' (first | (with_reducible exact Below.refl _ _) | (with_reducible refine Below.next ?_ (by with_reducible assumption)) | (with_reducible refine Below.drew ?_) | (with_reducible refine Below.laid ?_ _) | (with_reducible refine Below.setCell ?_ ?_ _) | (with_reducible refine size_of ?_) | (with_reducible refine Nat.le_succ_of_le ?_) | go_size)))) (HK.out.keep (by (repeat' (first | (with_reducible exact Below.refl _ _) | (with_reducible refine Below.next ?_ (by with_reducible assumption)) | (with_reducible refine Below.drew ?_) | (with_reducible refine Below.laid ?_ _) | (with_reducible refine Below.setCell ?_ ?_ _) | (with_reducible refine size_of ?_) | (with_reducible refine Nat.le_succ_of_le ?_) | go_size))))).mono ?_
    rintro e w3 ⟨rfl, hb3⟩
    rw [HX.out, HR2.out]
    unfold rowZ
    have BA3 := (BA2.alloc _).keep hb3
    have BW3 := (BW2.alloc _).keep hb3
    clear a0 a1 a2 a3 hlA hlW
    obtain ⟨a0, a1, a2, a3⟩ := BA3.cells4
    obtain ⟨b0, b1, b2, b3⟩ := BW3.cells4
    have hlA := BA3.lt
    have hlW := BW3.lt
    go_wp2_with fail
    refine (atom_Holds _ _ _ _ s t _ _ _ _ _ (HSS.out.keep (by (repeat' (first | (with_reducible exact Below.refl _ _) | (with_reducible refine Below.next ?_ (by with_reducible assumption)) | (with_reducible refine Below.drew ?_) | (with_reducible refine Below.laid ?_ _) | (with_reducible refine Below.setCell ?_ ?_ _) | (with_reducible refine size_of ?_) | (with_reducible refine Nat.le_succ_of_le ?_) | go_size)))) (HTT.out.keep (by (repeat' (first | (with_reducible exact Below.refl _ _) | (with_reducible refine Below.next ?_ (by with_reducible assumption)) | (with_reducible refine Below.drew ?_) | (with_reducible refine Below.laid ?_ _) | (with_reducible refine Below.setCell ?_ ?_ _) | (with_reducible refine size_of ?_) | (with_reducible refine Nat.le_succ_of_le ?_) | go_size)))) (HK.out.keep (by (repeat' (first | (with_reducible exact Below.refl _ _) | (with_reducible refine Below.next ?_ (by with_reducible assumption)) | (with_reducible refine Below.drew ?_) | (with_reducible refine Below.laid ?_ _) | (with_reducible refine Below.setCell ?_ ?_ _) | (with_reducible refine size_of ?_) | (with_reducible refine Nat.le_succ_of_le ?_) | go_size))))).mono ?_
    rintro e w4 ⟨rfl, hb4⟩
    rw [HH.out]
    go_wp2_with fail
    go_quiet (fail)
    go_wp2
    go_ret
    exact ⟨by simp, below_drewN (by (repeat' (first | (with_reducible exact Below.refl _ _) | (with_reducible refine Below.next ?_ (by with_reducible assumption)) | (with_reducible refine Below.drew ?_) | (with_reducible refine Below.laid ?_ _) | (with_reducible refine Below.setCell ?_ ?_ _) | (with_reducible refine size_of ?_) | (with_reducible refine Nat.le_succ_of_le ?_) | go_size))) _⟩

set_option maxRecDepth 100000 in
theorem rowsSay_contract (H : Type) (enc : TypeId × Value → H) (W : World) (base : Nat) (args : Array Value) (ds gs : List (DataW H)) (before : List MemPlace)
    (hval : ∀ (j : Nat) t v, Tryd.f12.params[j]? = some t → args[j]? = some v → Value.okWide Tryd.prog W .any base t v)
    (hW : DataW.Whole enc Tryd.prog Tryd.f12.params.toList Rows.rowsSaySpec.vars false W args.toList ds gs before) (hL : laidMetH Tryd.prog Rows.rowsSayRow.laid W)
    : Calls Tryd.prog 12 args W fun e W' => ∃ v, e = .returned v ∧ Rows.rowsSaySpec.post enc Tryd.prog Tryd.f12 false true false false W args v W' := by
  have hW' := hW
  obtain ⟨p, q, hA0, hV, rfl, hfz, hnd⟩ := hW
  have hA : DataW.TrodAll enc Tryd.prog W 0 (fun _ => true) true Tryd.f12.params.toList args.toList ds p := hA0
  rw [Tryd.params12] at hA hval
  obtain ⟨v0, vs0, d0, ds0, p0, q0, hargs, rfl, rfl, h0, r0⟩ := trodAll_cons hA
  obtain ⟨v1, vs1, d1, ds1, p1, q1, rfl, rfl, rfl, h1, r1⟩ := trodAll_cons r0
  obtain ⟨rfl, rfl, rfl⟩ := trodAll_nil r1
  obtain rfl : args = #[v0, v1] := by cases args; simp_all
  obtain ⟨rfl, rfl⟩ := trodVars_none hV
  have HKI : KindsOk W := kinds_of_laid hL (by repeat (first | exact List.Mem.head _ | apply List.Mem.tail))
  obtain ⟨yw, yn, ys, yt, ysv, ytv, rfl, yhs, yht, yww, ywn⟩ := open_atom (hval 0 47 v0 rfl rfl) h0
  obtain ⟨xth, xa, xb, xc, rfl, xwf⟩ := open_world (hval 1 41 v1 rfl rfl) h1
  clear hA0
  refine (rowsSay_walk yw yn ysv ytv ys yt xth xa xb xc W yhs yht HKI).mono fun e W' ⟨he, hw⟩ => ?_
  subst he
  exact ⟨_, rfl, law_post laidOut Tryd.underlying4 (by kernel_rfl) rfl (by kernel_rfl) hW' rfl hw⟩

theorem rowsSay_met (os : Os) : laidMetH Tryd.prog Rows.rowsSayRow.laid ((World.doorLaid Tryd.prog 400 os).forCall (fun _ _ => 0) ⟨#[], #[.agg #[.int .i64 0, .slice none 0 0, .slice none 0 0, .int .i64 0], .agg #[.int .i64 0, .int .i64 0, .int .i64 0, .int .i64 0]], []⟩).memory :=
  laidMetH_of_parts3 (fuel := 8) (laidMet_of_run' 8 (by kernel_rfl) (by kernel_rfl)) (by kernel_rfl) (by kernel_rfl)

set_option maxRecDepth 100000 in
theorem rowsSay_lifted (os : Os) (started : os.Started) (H : Type) (enc : TypeId × Value → H) (F : Stop.Interp) :
    ReturnsInHanded {} Tryd.checked os 12 .any ((OpenSpec.ofChange Rows.rowsSaySpec).preRow enc Tryd.prog Tryd.f12 Rows.rowsSayRow.domain false Rows.rowsSayRow.laid) (((OpenSpec.ofChange Rows.rowsSaySpec).at F).post enc Tryd.prog Tryd.f12 false true false false) := by
  refine returnsInHanded_of_row (C := Tryd.checked) (s := (OpenSpec.ofChange Rows.rowsSaySpec)) own started (by kernel_rfl) Tryd.func12
    (witness_row_at (enc := enc) (C := Tryd.checked) false (World.doorLaid Tryd.prog 400 os) #[.agg #[.int .i64 0, .slice none 0 0, .slice none 0 0, .int .i64 0], .agg #[.int .i64 0, .int .i64 0, .int .i64 0, .int .i64 0]] rfl (by kernel_rfl) (by kernel_rfl) (by kernel_rfl)
      (OpenSpec.preRow_of_cond 8 (x := ([.agg [.lit (.int .i64 0), .nil, .nil, .lit (.int .i64 0)], .agg [.lit (.int .i64 0), .agg [.lit (.int .i64 0), .lit (.int .i64 0), .lit (.int .i64 0)]]], [], [])) (by kernel_rfl) (by kernel_rfl) (fun k hk => by cases hk) (by kernel_rfl) (rowsSay_met os))) ?_
  intro W base args ds gs before hval hW _ HKU _ hL _ _
  exact rowsSay_contract H enc W base args ds gs before hval hW hL

theorem rowsSay_said : Rows.RowsSaySaid :=
  OpenClaim.holds_of_cond 12 Tryd.f12 rfl rfl rfl rfl rfl rfl rfl ⟨rfl, rfl, rfl, rfl, rfl⟩ rfl rfl rfl rfl rfl (by kernel_rfl) Tryd.func12 (by kernel_rfl)
    (of_decide_eq_true (by kernel_rfl)) (by unfold Func.isWrapper; first | (rw [if_pos (by decide +kernel)]; kernel_rfl) | (rw [if_neg (by decide +kernel)]; exact ⟨rfl, rfl⟩))
    (fun os started H enc _ F => by rw [OpenClaim.pre_eq_preRow]; exact rowsSay_lifted os started H enc F)

theorem rowsSay_plain (f : FuncId) (fn : Func) (hf : Tryd.pinned.checked.prog.funcNamed "vennhouse/vennlaw1.RowsSay" = some f) (hfn : Tryd.pinned.checked.prog.funcs[f]? = some fn) :
    true = Tryd.pinned.checked.prog.looks [] ∧ ∀ (j : Nat) t, fn.params[j]? = some t → Tryd.pinned.checked.prog.wantsStandIn t = false := by
  obtain rfl : f = 12 := Option.some.inj ((show Tryd.prog.funcNamed "vennhouse/vennlaw1.RowsSay" = some 12 by kernel_rfl).symm.trans hf) |>.symm
  obtain rfl : fn = Tryd.f12 := (Option.some.inj (Tryd.func12.symm.trans hfn)).symm
  refine ⟨by kernel_rfl, fun j t ht => ?_⟩
  rw [Tryd.params12] at ht
  have ht' := Array.mem_of_getElem? ht
  have hall : ∀ t ∈ (#[47, 41] : Array TypeId), Tryd.prog.wantsStandIn t = false := fun t ht => by
    simp only [List.mem_toArray, List.mem_cons, List.not_mem_nil, or_false] at ht
    rcases ht with rfl | rfl
    all_goals kernel_rfl
  exact hall t ht'

theorem rowsSay_holds : Rows.RowsSayCardSaid :=
  Claim7.holds_tied_plain_at .later [] _ _ _ _ rowsSay_said (fun _ h => by cases h) (by kernel_rfl) (fun _ h => by cases h) rowsSay_row_tie rfl ⟨rfl, rfl⟩ (by kernel_rfl) rfl rowsSay_plain (by kernel_rfl)
#print axioms rowsSay_holds
end Go.Proofs.YtpcdiilgomfpbaaDoor
