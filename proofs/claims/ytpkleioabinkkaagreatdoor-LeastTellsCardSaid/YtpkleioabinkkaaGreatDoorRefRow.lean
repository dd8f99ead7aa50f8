/-
  THE WALK of the reference's Row.
-/
import Derived.Test.YtpkleioabinkkaaGreatDoorRowG
import Derived.Test.YtpkleioabinkkaaGreatDoorRefW
import Derived.Test.YtpkleioabinkkaaGreatDoorVennP2
namespace Go.Proofs.YtpkleioabinkkaaGreatDoor
open Go.RowKit

def upC (x : Nat → Int) (k : Nat) : Array Value := #[.int .i64 (if 0 < k then x 0 else 0), .int .i64 (if 1 < k then x 1 else 0), .int .i64 (if 2 < k then x 2 else 0), .int .i64 (if 3 < k then x 3 else 0), .int .i64 (if 4 < k then x 4 else 0), .int .i64 (if 5 < k then x 5 else 0), .int .i64 (if 6 < k then x 6 else 0), .int .i64 (if 7 < k then x 7 else 0), .int .i64 0]
theorem upC_at (x : Nat → Int) (k : Nat) (hk : k < 8) : (upC x k)[k]? = some (.int .i64 0) := by
  rcases (by omega : k = 0 ∨ k = 1 ∨ k = 2 ∨ k = 3 ∨ k = 4 ∨ k = 5 ∨ k = 6 ∨ k = 7) with rfl | rfl | rfl | rfl | rfl | rfl | rfl | rfl
  all_goals simp [upC]
theorem upC_set (x : Nat → Int) (k : Nat) (hk : k < 8) : (upC x k).setIfInBounds k (.int .i64 (x k)) = upC x (k + 1) := by
  rcases (by omega : k = 0 ∨ k = 1 ∨ k = 2 ∨ k = 3 ∨ k = 4 ∨ k = 5 ∨ k = 6 ∨ k = 7) with rfl | rfl | rfl | rfl | rfl | rfl | rfl | rfl
  all_goals simp [upC]
theorem upC_8 (x : Nat → Int) (m : Int) : (upC x 8).setIfInBounds 8 (.int .i64 m) = negC x m 0 := by simp [upC, negC]
theorem upC_80 (x : Nat → Int) : upC x 8 = negC x 0 0 := by simp [upC, negC]
theorem negC_00 (x : Nat → Int) (m : Int) : negC x m 0 = #[.int .i64 (x 0), .int .i64 (x 1), .int .i64 (x 2), .int .i64 (x 3), .int .i64 (x 4), .int .i64 (x 5), .int .i64 (x 6), .int .i64 (x 7), .int .i64 m] := by simp [negC]
theorem rowT_neg (a : Venn.Atom) (f : Nat) : Venn.rowT a false f = -Venn.rowT a true f := by simp [Venn.rowT]
theorem rowM_neg (a : Venn.Atom) : Venn.rowM a false = -Venn.rowM a true - 1 := by simp [Venn.rowM]
theorem rowT_bound (a : Venn.Atom) (f : Nat) : -1 ≤ Venn.rowT a true f ∧ Venn.rowT a true f ≤ 1 := by
  have := Venn.timesAt_range a.what (Venn.mask a.s) (Venn.tMask a) f
  simpa [Venn.rowT] using this

set_option maxHeartbeats 4000000 in
set_option maxRecDepth 100000 in
theorem ref_Row_1 (n : Int) (sv tv : Value) (s t : List Int) (holds : Bool) (w : World) (hs : IsInts w sv s) (ht : IsInts w tv t) (hc : Venn.atomChk ⟨1, s, t, n⟩ = 0) :
    Calls Tryz.prog 39 #[.agg #[.int .i64 1, sv, tv, .int .i64 n], .bool holds] w (Keeps (rowV ⟨1, s, t, n⟩ holds) w) := by
  obtain ⟨sA, sc, rfl, hs'⟩ := hs
  obtain ⟨tA, tc, rfl, ht'⟩ := ht
  have HS := Lib.hid (show IsInts w (.slice sA s.length sc) s from ⟨sA, sc, rfl, hs'⟩)
  have HT := Lib.hid (show IsInts w (.slice tA t.length tc) t from ⟨tA, tc, rfl, ht'⟩)
  obtain ⟨_, _, hcs, hct, hct2, hn1, hn2, hn3⟩ := Venn.atomChk_parts hc
  simp only at hcs hct hct2 hn1 hn2 hn3
  have HCS := Lib.hid hcs
  have HCT := Lib.hid (hct (by decide))
  obtain rfl : n = 0 := hn3 (by decide)
  have HSTEP := Lib.hid (show ∀ k : Nat, k < 8 → ∀ bs bt : Bool, Venn.bit (Venn.lies s k) 0 = bs → Venn.bit (Venn.lies t k) 0 = bt → Venn.rowT ⟨1, s, t, 0⟩ true k = if (bs && !bt) = true then 1 else 0 from fun k hk bs bt h1 h2 => by
    have e := Venn.rowT_lies ⟨1, s, t, 0⟩ k hk
    rw [e]
    simp only [Venn.timesV]
    rw [lies_bit s k, h1]
    have e2 : Venn.tLies ⟨1, s, t, 0⟩ k = Venn.lies t k := by unfold Venn.tLies; exact if_neg (fun h => by have := hct (by decide); simp only at h; rw [h] at this; revert this; decide)
    rw [e2, lies_bit t k, h2]
    cases bs <;> cases bt <;> simp)
  have HB := Lib.hid (fun f => rowT_bound ⟨1, s, t, 0⟩ f)
  have HV1 := Lib.hid (show rowV ⟨1, s, t, 0⟩ true = .agg #[.int .i64 (Venn.rowT ⟨1, s, t, 0⟩ true 0), .int .i64 (Venn.rowT ⟨1, s, t, 0⟩ true 1), .int .i64 (Venn.rowT ⟨1, s, t, 0⟩ true 2), .int .i64 (Venn.rowT ⟨1, s, t, 0⟩ true 3), .int .i64 (Venn.rowT ⟨1, s, t, 0⟩ true 4), .int .i64 (Venn.rowT ⟨1, s, t, 0⟩ true 5), .int .i64 (Venn.rowT ⟨1, s, t, 0⟩ true 6), .int .i64 (Venn.rowT ⟨1, s, t, 0⟩ true 7), .int .i64 0] by
    simp [rowV, Venn.rowM])
  have HV0 := Lib.hid (show rowV ⟨1, s, t, 0⟩ false = .agg #[.int .i64 (-Venn.rowT ⟨1, s, t, 0⟩ true 0), .int .i64 (-Venn.rowT ⟨1, s, t, 0⟩ true 1), .int .i64 (-Venn.rowT ⟨1, s, t, 0⟩ true 2), .int .i64 (-Venn.rowT ⟨1, s, t, 0⟩ true 3), .int .i64 (-Venn.rowT ⟨1, s, t, 0⟩ true 4), .int .i64 (-Venn.rowT ⟨1, s, t, 0⟩ true 5), .int .i64 (-Venn.rowT ⟨1, s, t, 0⟩ true 6), .int .i64 (-Venn.rowT ⟨1, s, t, 0⟩ true 7), .int .i64 (-1)] by
    simp [rowV, rowT_neg, Venn.rowM])
  obtain ⟨R, hR⟩ : ∃ R, R = rowV ⟨1, s, t, 0⟩ holds := ⟨_, rfl⟩
  have HR := Lib.hid hR
  rw [← hR]
  generalize hX : Venn.rowT ⟨1, s, t, 0⟩ true = X at HSTEP HB HV1 HV0
  clear hs' ht' hc hcs hct hct2 hn3 hR hX
  go_enter Tryz.func39, Tryz.ntmps39
  go_wp2
  go_loopw [6] (fun i wr => ∃ k : Nat, k ≤ 8 ∧ i = .int .i64 k ∧ Below w.heap.size w wr ∧ Blk wr w.heap.size 46 #[.int .i64 1, .slice sA s.length sc, .slice tA t.length tc, .int .i64 0] ∧ Blk wr (w.heap.size + 1) 79 zero9 ∧ Blk wr (w.heap.size + 1 + 1) 79 (upC X k))
    (fun i _ => 8 - (intOf i).toNat)
  case atStart =>
    refine ⟨0, by omega, rfl, by (repeat' (first | (with_reducible exact Below.refl _ _) | (with_reducible assumption) | (with_reducible refine Below.next ?_ (by with_reducible assumption)) | (with_reducible refine Below.drew ?_) | (with_reducible refine Below.laid ?_ _) | (with_reducible refine Below.setCell ?_ ?_ _) | (with_reducible refine size_of ?_) | (with_reducible refine Nat.le_succ_of_le ?_) | go_size)), ?_, ?_, ?_⟩
    · exact ((Blk.new _ _ _).alloc _).alloc _
    · exact (Blk.newAt (by simp) _ _).alloc _
    · simpa [upC] using Blk.newAt (by simp) _ _
  case round =>
    obtain ⟨k, hk, rfl, hw1, BA, BZ, BR⟩ := hrel
    obtain ⟨wo, rfl⟩ : ∃ wo : World, wo = wr := ⟨_, rfl⟩
    obtain ⟨BA0, BA1, BA2, BA3⟩ := BA.cells4
    have BAl := BA.lt
    by_cases hlt : k < 8
    · have hk0 : (0 : Int) ≤ (k : Int) := by omega
      have hk1 : (k : Int) < 8 := by omega
      go_wp2_with fail
      refine (ref_Lies _ s k _ (HS.out.keep (by (repeat' (first | (with_reducible exact Below.refl _ _) | (with_reducible assumption) | (with_reducible refine Below.next ?_ (by with_reducible assumption)) | (with_reducible refine Below.drew ?_) | (with_reducible refine Below.laid ?_ _) | (with_reducible refine Below.setCell ?_ ?_ _) | (with_reducible refine size_of ?_) | (with_reducible refine Nat.le_succ_of_le ?_) | go_size)))) HCS.out hlt).mono ?_
      rintro e w2 ⟨rfl, hb2⟩
      have hw2 := Below.next hw1 hb2
      clear BA0 BA1 BA2 BA3 BAl
      replace BA := BA.keep hb2
      replace BZ := BZ.keep hb2
      replace BR := BR.keep hb2
      obtain ⟨BA0, BA1, BA2, BA3⟩ := BA.cells4
      have BAl := BA.lt
      go_wp2_with fail
      refine (ref_Lies _ t k _ (HT.out.keep (by (repeat' (first | (with_reducible exact Below.refl _ _) | (with_reducible assumption) | (with_reducible refine Below.next ?_ (by with_reducible assumption)) | (with_reducible refine Below.drew ?_) | (with_reducible refine Below.laid ?_ _) | (with_reducible refine Below.setCell ?_ ?_ _) | (with_reducible refine size_of ?_) | (with_reducible refine Nat.le_succ_of_le ?_) | go_size)))) HCT.out hlt).mono ?_
      rintro e w3 ⟨rfl, hb3⟩
      have hw3 := Below.next hw2 hb3
      clear BA0 BA1 BA2 BA3 BAl
      replace BA := BA.keep hb3
      replace BZ := BZ.keep hb3
      replace BR := BR.keep hb3
      obtain ⟨BA0, BA1, BA2, BA3⟩ := BA.cells4
      have BAl := BA.lt
      have c1 := (BR.cell k).trans (upC_at X k hlt)
      have c2 := BR.frozen k
      have hbl := BR.lt
      have hstep := HSTEP.out k hlt
      cases hbs : Venn.bit (Venn.lies s k) 0
      · cases hbt : Venn.bit (Venn.lies t k) 0
        · have HXK := Lib.hid (show X k = 0 by have := hstep false false hbs hbt; simpa using this)
          have G := BR.set_ k (.int .i64 (X k))
          rw [upC_set X k hlt, HXK.out] at G
          clear hbs hbt hstep
          go_wp2
          go_roundw
          case rel => exact ⟨k + 1, by omega, by go_num, hw3.setCell (by show w.heap.size ≤ w.heap.size + 1 + 1; omega) _, BA.far (by show ¬ w.heap.size = w.heap.size + 1 + 1; omega) _, BZ.far (by show ¬ w.heap.size + 1 = w.heap.size + 1 + 1; omega) _, G⟩
          case measure => simp [intOf]; omega
        · have HXK := Lib.hid (show X k = 0 by have := hstep false true hbs hbt; simpa using this)
          have G := BR.set_ k (.int .i64 (X k))
          rw [upC_set X k hlt, HXK.out] at G
          clear hbs hbt hstep
          go_wp2
          go_roundw
          case rel => exact ⟨k + 1, by omega, by go_num, hw3.setCell (by show w.heap.size ≤ w.heap.size + 1 + 1; omega) _, BA.far (by show ¬ w.heap.size = w.heap.size + 1 + 1; omega) _, BZ.far (by show ¬ w.heap.size + 1 = w.heap.size + 1 + 1; omega) _, G⟩
          case measure => simp [intOf]; omega
      · cases hbt : Venn.bit (Venn.lies t k) 0
        · have HXK := Lib.hid (show X k = 1 by have := hstep true false hbs hbt; simpa using this)
          have G := BR.set_ k (.int .i64 (X k))
          rw [upC_set X k hlt, HXK.out] at G
          clear hbs hbt hstep
          go_wp2
          go_roundw
          case rel => exact ⟨k + 1, by omega, by go_num, hw3.setCell (by show w.heap.size ≤ w.heap.size + 1 + 1; omega) _, BA.far (by show ¬ w.heap.size = w.heap.size + 1 + 1; omega) _, BZ.far (by show ¬ w.heap.size + 1 = w.heap.size + 1 + 1; omega) _, G⟩
          case measure => simp [intOf]; omega
        · have HXK := Lib.hid (show X k = 0 by have := hstep true true hbs hbt; simpa using this)
          have G := BR.set_ k (.int .i64 (X k))
          rw [upC_set X k hlt, HXK.out] at G
          clear hbs hbt hstep
          go_wp2
          go_roundw
          case rel => exact ⟨k + 1, by omega, by go_num, hw3.setCell (by show w.heap.size ≤ w.heap.size + 1 + 1; omega) _, BA.far (by show ¬ w.heap.size = w.heap.size + 1 + 1; omega) _, BZ.far (by show ¬ w.heap.size + 1 = w.heap.size + 1 + 1; omega) _, G⟩
          case measure => simp [intOf]; omega
    · obtain rfl : k = 8 := by omega
      have hk1 : ¬ ((8 : Nat) : Int) < 8 := by decide
      have c8 := BR.cell 8
      have f8 := BR.frozen 8
      have hbl := BR.lt
      rw [show (upC X 8)[8]? = some (.int .i64 0) from rfl] at c8
      have G3 := BR
      rw [upC_80] at G3
      have S3 := hw1
      have Z3 := BZ
      go_upto_if 82 with (fail)
      clear BA0 BA1 BA2 BA3 BAl BA BZ BR c8 f8 hbl hw1
      obtain ⟨wx, rfl⟩ : ∃ wx : World, wx = wo := ⟨_, rfl⟩
      have hgl3 := G3.lt
      have hrl3 := Z3.lt
      cases holds
      · go_wp2
        go_loopw [10] (fun i wr => ∃ k : Nat, k ≤ 8 ∧ i = .int .i64 k ∧ Below w.heap.size w wr ∧ Blk wr (w.heap.size + 1) 79 zero9 ∧ Blk wr (w.heap.size + 1 + 1) 79 (negC X 0 k))
          (fun i _ => 8 - (intOf i).toNat)
        case atStart => exact ⟨0, by omega, rfl, S3, Z3, G3⟩
        case round =>
          clear G3 Z3 S3
          obtain ⟨k, hk, rfl, hb, hRR, hG⟩ := hrel
          have hgl4 := hG.lt
          have hM : -20 ≤ 0 ∧ 0 ≤ 20 := by omega
          by_cases hlt : (k : Int) < 8
          · have hc := hG.cell k
            have hfz := hG.frozen k
            rw [negC_at _ _ _ (by omega)] at hc
            have hx := HB.out k
            have hG' := hG.set_ k (.int .i64 (-(X k)))
            rw [negC_set _ _ _ (by omega)] at hG'
            have hwr : IntKind.i64.wrap (-(X k)) = -(X k) := wrap_of (by omega) (by omega)
            generalize X k = Y at hc hG' hwr
            clear hx
            have hk0 : (0 : Int) ≤ (k : Int) := by omega
            go_wp2
            go_roundw
            case rel => exact ⟨k + 1, by omega, by go_num, hb.setCell (by show w.heap.size ≤ w.heap.size + 1 + 1; omega) _, hRR.far (by simp) _, hG'⟩
            case measure => simp [intOf]; omega
          · obtain rfl : k = 8 := by omega
            rw [negC_8] at hG
            have f8 := hG.frozen 8
            have c8' := hG.cell 8
            simp at c8'
            have hG' := hG.set_ 8 (.int .i64 (-1))
            obtain ⟨⟨c0, c1, c2, c3, c4, c5, c6, c7, c8⟩, _⟩ := hG'.cells9
            obtain ⟨⟨d0, d1, d2, d3, d4, d5, d6, d7, d8⟩, g0, g1, g2, g3, g4, g5, g6, g7, g8⟩ := (hRR.far (p := ⟨w.heap.size + 1 + 1, 8, none⟩) (by simp) (.int .i64 (-1))).cells9
            have hwr : IntKind.i64.wrap (0 + 1) = 0 + 1 := wrap_of (by omega) (by omega)
            have hwr2 : IntKind.i64.wrap (-1) = -(0 + 1) := wrap_of (by omega) (by omega)
            have HRV := Lib.hid (HR.out.trans HV0.out)
            go_wp2
            refine bodyPost_ret (v := .agg #[.int .i64 (-X 0), .int .i64 (-X 1), .int .i64 (-X 2), .int .i64 (-X 3), .int .i64 (-X 4), .int .i64 (-X 5), .int .i64 (-X 6), .int .i64 (-X 7), .int .i64 (-1)]) (by simp [results, Tryz.results39, go_sem, d0, d1, d2, d3, d4, d5, d6, d7, d8]) rfl ⟨congrArg Ending.returned HRV.out.symm, ?_⟩
            exact below_set9 (hb.setCell (by show w.heap.size ≤ w.heap.size + 1 + 1; omega) _) (by show w.heap.size ≤ w.heap.size + 1; omega) _ _ _ _ _ _ _ _ _
      · have HRV := Lib.hid (HR.out.trans HV1.out)
        rw [negC_00] at G3
        obtain ⟨⟨d0, d1, d2, d3, d4, d5, d6, d7, d8⟩, f0, f1, f2, f3, f4, f5, f6, f7, f8⟩ := Z3.cells9
        obtain ⟨⟨c0, c1, c2, c3, c4, c5, c6, c7, c8⟩, _⟩ := G3.cells9
        go_wp2
        refine bodyPost_ret (v := .agg #[.int .i64 (X 0), .int .i64 (X 1), .int .i64 (X 2), .int .i64 (X 3), .int .i64 (X 4), .int .i64 (X 5), .int .i64 (X 6), .int .i64 (X 7), .int .i64 0]) (by simp [results, Tryz.results39, go_sem, d0, d1, d2, d3, d4, d5, d6, d7, d8]) rfl ⟨congrArg Ending.returned HRV.out.symm, ?_⟩
        exact below_set9 S3 (by show w.heap.size ≤ w.heap.size + 1; omega) _ _ _ _ _ _ _ _ _

set_option maxHeartbeats 4000000 in
set_option maxRecDepth 100000 in
theorem ref_Row_2 (n : Int) (sv tv : Value) (s t : List Int) (holds : Bool) (w : World) (hs : IsInts w sv s) (ht : IsInts w tv t) (hc : Venn.atomChk ⟨2, s, t, n⟩ = 0) :
    Calls Tryz.prog 39 #[.agg #[.int .i64 2, sv, tv, .int .i64 n], .bool holds] w (Keeps (rowV ⟨2, s, t, n⟩ holds) w) := by
  obtain ⟨sA, sc, rfl, hs'⟩ := hs
  obtain ⟨tA, tc, rfl, ht'⟩ := ht
  have HS := Lib.hid (show IsInts w (.slice sA s.length sc) s from ⟨sA, sc, rfl, hs'⟩)
  have HT := Lib.hid (show IsInts w (.slice tA t.length tc) t from ⟨tA, tc, rfl, ht'⟩)
  obtain ⟨_, _, hcs, hct, hct2, hn1, hn2, hn3⟩ := Venn.atomChk_parts hc
  simp only at hcs hct hct2 hn1 hn2 hn3
  have HCS := Lib.hid hcs
  have HCT := Lib.hid (hct (by decide))
  obtain rfl : n = 0 := hn3 (by decide)
  have HSTEP := Lib.hid (show ∀ k : Nat, k < 8 → ∀ bs bt : Bool, Venn.bit (Venn.lies s k) 0 = bs → Venn.bit (Venn.lies t k) 0 = bt → Venn.rowT ⟨2, s, t, 0⟩ true k = if (bs != bt) = true then 1 else 0 from fun k hk bs bt h1 h2 => by
    have e := Venn.rowT_lies ⟨2, s, t, 0⟩ k hk
    rw [e]
    simp only [Venn.timesV]
    rw [lies_bit s k, h1]
    have e2 : Venn.tLies ⟨2, s, t, 0⟩ k = Venn.lies t k := by unfold Venn.tLies; exact if_neg (fun h => by have := hct (by decide); simp only at h; rw [h] at this; revert this; decide)
    rw [e2, lies_bit t k, h2]
    cases bs <;> cases bt <;> simp)
  have HB := Lib.hid (fun f => rowT_bound ⟨2, s, t, 0⟩ f)
  have HV1 := Lib.hid (show rowV ⟨2, s, t, 0⟩ true = .agg #[.int .i64 (Venn.rowT ⟨2, s, t, 0⟩ true 0), .int .i64 (Venn.rowT ⟨2, s, t, 0⟩ true 1), .int .i64 (Venn.rowT ⟨2, s, t, 0⟩ true 2), .int .i64 (Venn.rowT ⟨2, s, t, 0⟩ true 3), .int .i64 (Venn.rowT ⟨2, s, t, 0⟩ true 4), .int .i64 (Venn.rowT ⟨2, s, t, 0⟩ true 5), .int .i64 (Venn.rowT ⟨2, s, t, 0⟩ true 6), .int .i64 (Venn.rowT ⟨2, s, t, 0⟩ true 7), .int .i64 0] by
    simp [rowV, Venn.rowM])
  have HV0 := Lib.hid (show rowV ⟨2, s, t, 0⟩ false = .agg #[.int .i64 (-Venn.rowT ⟨2, s, t, 0⟩ true 0), .int .i64 (-Venn.rowT ⟨2, s, t, 0⟩ true 1), .int .i64 (-Venn.rowT ⟨2, s, t, 0⟩ true 2), .int .i64 (-Venn.rowT ⟨2, s, t, 0⟩ true 3), .int .i64 (-Venn.rowT ⟨2, s, t, 0⟩ true 4), .int .i64 (-Venn.rowT ⟨2, s, t, 0⟩ true 5), .int .i64 (-Venn.rowT ⟨2, s, t, 0⟩ true 6), .int .i64 (-Venn.rowT ⟨2, s, t, 0⟩ true 7), .int .i64 (-1)] by
    simp [rowV, rowT_neg, Venn.rowM])
  obtain ⟨R, hR⟩ : ∃ R, R = rowV ⟨2, s, t, 0⟩ holds := ⟨_, rfl⟩
  have HR := Lib.hid hR
  rw [← hR]
  generalize hX : Venn.rowT ⟨2, s, t, 0⟩ true = X at HSTEP HB HV1 HV0
  clear hs' ht' hc hcs hct hct2 hn3 hR hX
  go_enter Tryz.func39, Tryz.ntmps39
  go_wp2
  go_loopw [6] (fun i wr => ∃ k : Nat, k ≤ 8 ∧ i = .int .i64 k ∧ Below w.heap.size w wr ∧ Blk wr w.heap.size 46 #[.int .i64 2, .slice sA s.length sc, .slice tA t.length tc, .int .i64 0] ∧ Blk wr (w.heap.size + 1) 79 zero9 ∧ Blk wr (w.heap.size + 1 + 1) 79 (upC X k))
    (fun i _ => 8 - (intOf i).toNat)
  case atStart =>
    refine ⟨0, by omega, rfl, by (repeat' (first | (with_reducible exact Below.refl _ _) | (with_reducible assumption) | (with_reducible refine Below.next ?_ (by with_reducible assumption)) | (with_reducible refine Below.drew ?_) | (with_reducible refine Below.laid ?_ _) | (with_reducible refine Below.setCell ?_ ?_ _) | (with_reducible refine size_of ?_) | (with_reducible refine Nat.le_succ_of_le ?_) | go_size)), ?_, ?_, ?_⟩
    · exact ((Blk.new _ _ _).alloc _).alloc _
    · exact (Blk.newAt (by simp) _ _).alloc _
    · simpa [upC] using Blk.newAt (by simp) _ _
  case round =>
    obtain ⟨k, hk, rfl, hw1, BA, BZ, BR⟩ := hrel
    obtain ⟨wo, rfl⟩ : ∃ wo : World, wo = wr := ⟨_, rfl⟩
    obtain ⟨BA0, BA1, BA2, BA3⟩ := BA.cells4
    have BAl := BA.lt
    by_cases hlt : k < 8
    · have hk0 : (0 : Int) ≤ (k : Int) := by omega
      have hk1 : (k : Int) < 8 := by omega
      go_wp2_with fail
      refine (ref_Lies _ s k _ (HS.out.keep (by (repeat' (first | (with_reducible exact Below.refl _ _) | (with_reducible assumption) | (with_reducible refine Below.next ?_ (by with_reducible assumption)) | (with_reducible refine Below.drew ?_) | (with_reducible refine Below.laid ?_ _) | (with_reducible refine Below.setCell ?_ ?_ _) | (with_reducible refine size_of ?_) | (with_reducible refine Nat.le_succ_of_le ?_) | go_size)))) HCS.out hlt).mono ?_
      rintro e w2 ⟨rfl, hb2⟩
      have hw2 := Below.next hw1 hb2
      clear BA0 BA1 BA2 BA3 BAl
      replace BA := BA.keep hb2
      replace BZ := BZ.keep hb2
      replace BR := BR.keep hb2
      obtain ⟨BA0, BA1, BA2, BA3⟩ := BA.cells4
      have BAl := BA.lt
      go_wp2_with fail
      refine (ref_Lies _ t k _ (HT.out.keep (by (repeat' (first | (with_reducible exact Below.refl _ _) | (with_reducible assumption) | (with_reducible refine Below.next ?_ (by with_reducible assumption)) | (with_reducible refine Below.drew ?_) | (with_reducible refine Below.laid ?_ _) | (with_reducible refine Below.setCell ?_ ?_ _) | (with_reducible refine size_of ?_) | (with_reducible refine Nat.le_succ_of_le ?_) | go_size)))) HCT.out hlt).mono ?_
      rintro e w3 ⟨rfl, hb3⟩
      have hw3 := Below.next hw2 hb3
      clear BA0 BA1 BA2 BA3 BAl
      replace BA := BA.keep hb3
      replace BZ := BZ.keep hb3
      replace BR := BR.keep hb3
      obtain ⟨BA0, BA1, BA2, BA3⟩ := BA.cells4
      have BAl := BA.lt
      have c1 := (BR.cell k).trans (upC_at X k hlt)
      have c2 := BR.frozen k
      have hbl := BR.lt
      have hstep := HSTEP.out k hlt
      cases hbs : Venn.bit (Venn.lies s k) 0
      · cases hbt : Venn.bit (Venn.lies t k) 0
        · have HXK := Lib.hid (show X k = 0 by have := hstep false false hbs hbt; simpa using this)
          have G := BR.set_ k (.int .i64 (X k))
          rw [upC_set X k hlt, HXK.out] at G
          clear hbs hbt hstep
          go_wp2
          go_roundw
          case rel => exact ⟨k + 1, by omega, by go_num, hw3.setCell (by show w.heap.size ≤ w.heap.size + 1 + 1; omega) _, BA.far (by show ¬ w.heap.size = w.heap.size + 1 + 1; omega) _, BZ.far (by show ¬ w.heap.size + 1 = w.heap.size + 1 + 1; omega) _, G⟩
          case measure => simp [intOf]; omega
        · have HXK := Lib.hid (show X k = 1 by have := hstep false true hbs hbt; simpa using this)
          have G := BR.set_ k (.int .i64 (X k))
          rw [upC_set X k hlt, HXK.out] at G
          clear hbs hbt hstep
          go_wp2
          go_roundw
          case rel => exact ⟨k + 1, by omega, by go_num, hw3.setCell (by show w.heap.size ≤ w.heap.size + 1 + 1; omega) _, BA.far (by show ¬ w.heap.size = w.heap.size + 1 + 1; omega) _, BZ.far (by show ¬ w.heap.size + 1 = w.heap.size + 1 + 1; omega) _, G⟩
          case measure => simp [intOf]; omega
      · cases hbt : Venn.bit (Venn.lies t k) 0
        · have HXK := Lib.hid (show X k = 1 by have := hstep true false hbs hbt; simpa using this)
          have G := BR.set_ k (.int .i64 (X k))
          rw [upC_set X k hlt, HXK.out] at G
          clear hbs hbt hstep
          go_wp2
          go_roundw
          case rel => exact ⟨k + 1, by omega, by go_num, hw3.setCell (by show w.heap.size ≤ w.heap.size + 1 + 1; omega) _, BA.far (by show ¬ w.heap.size = w.heap.size + 1 + 1; omega) _, BZ.far (by show ¬ w.heap.size + 1 = w.heap.size + 1 + 1; omega) _, G⟩
          case measure => simp [intOf]; omega
        · have HXK := Lib.hid (show X k = 0 by have := hstep true true hbs hbt; simpa using this)
          have G := BR.set_ k (.int .i64 (X k))
          rw [upC_set X k hlt, HXK.out] at G
          clear hbs hbt hstep
          go_wp2
          go_roundw
          case rel => exact ⟨k + 1, by omega, by go_num, hw3.setCell (by show w.heap.size ≤ w.heap.size + 1 + 1; omega) _, BA.far (by show ¬ w.heap.size = w.heap.size + 1 + 1; omega) _, BZ.far (by show ¬ w.heap.size + 1 = w.heap.size + 1 + 1; omega) _, G⟩
          case measure => simp [intOf]; omega
    · obtain rfl : k = 8 := by omega
      have hk1 : ¬ ((8 : Nat) : Int) < 8 := by decide
      have c8 := BR.cell 8
      have f8 := BR.frozen 8
      have hbl := BR.lt
      rw [show (upC X 8)[8]? = some (.int .i64 0) from rfl] at c8
      have G3 := BR
      rw [upC_80] at G3
      have S3 := hw1
      have Z3 := BZ
      go_upto_if 82 with (fail)
      clear BA0 BA1 BA2 BA3 BAl BA BZ BR c8 f8 hbl hw1
      obtain ⟨wx, rfl⟩ : ∃ wx : World, wx = wo := ⟨_, rfl⟩
      have hgl3 := G3.lt
      have hrl3 := Z3.lt
      cases holds
      · go_wp2
        go_loopw [10] (fun i wr => ∃ k : Nat, k ≤ 8 ∧ i = .int .i64 k ∧ Below w.heap.size w wr ∧ Blk wr (w.heap.size + 1) 79 zero9 ∧ Blk wr (w.heap.size + 1 + 1) 79 (negC X 0 k))
          (fun i _ => 8 - (intOf i).toNat)
        case atStart => exact ⟨0, by omega, rfl, S3, Z3, G3⟩
        case round =>
          clear G3 Z3 S3
          obtain ⟨k, hk, rfl, hb, hRR, hG⟩ := hrel
          have hgl4 := hG.lt
          have hM : -20 ≤ 0 ∧ 0 ≤ 20 := by omega
          by_cases hlt : (k : Int) < 8
          · have hc := hG.cell k
            have hfz := hG.frozen k
            rw [negC_at _ _ _ (by omega)] at hc
            have hx := HB.out k
            have hG' := hG.set_ k (.int .i64 (-(X k)))
            rw [negC_set _ _ _ (by omega)] at hG'
            have hwr : IntKind.i64.wrap (-(X k)) = -(X k) := wrap_of (by omega) (by omega)
            generalize X k = Y at hc hG' hwr
            clear hx
            have hk0 : (0 : Int) ≤ (k : Int) := by omega
            go_wp2
            go_roundw
            case rel => exact ⟨k + 1, by omega, by go_num, hb.setCell (by show w.heap.size ≤ w.heap.size + 1 + 1; omega) _, hRR.far (by simp) _, hG'⟩
            case measure => simp [intOf]; omega
          · obtain rfl : k = 8 := by omega
            rw [negC_8] at hG
            have f8 := hG.frozen 8
            have c8' := hG.cell 8
            simp at c8'
            have hG' := hG.set_ 8 (.int .i64 (-1))
            obtain ⟨⟨c0, c1, c2, c3, c4, c5, c6, c7, c8⟩, _⟩ := hG'.cells9
            obtain ⟨⟨d0, d1, d2, d3, d4, d5, d6, d7, d8⟩, g0, g1, g2, g3, g4, g5, g6, g7, g8⟩ := (hRR.far (p := ⟨w.heap.size + 1 + 1, 8, none⟩) (by simp) (.int .i64 (-1))).cells9
            have hwr : IntKind.i64.wrap (0 + 1) = 0 + 1 := wrap_of (by omega) (by omega)
            have hwr2 : IntKind.i64.wrap (-1) = -(0 + 1) := wrap_of (by omega) (by omega)
            have HRV := Lib.hid (HR.out.trans HV0.out)
            go_wp2
            refine bodyPost_ret (v := .agg #[.int .i64 (-X 0), .int .i64 (-X 1), .int .i64 (-X 2), .int .i64 (-X 3), .int .i64 (-X 4), .int .i64 (-X 5), .int .i64 (-X 6), .int .i64 (-X 7), .int .i64 (-1)]) (by simp [results, Tryz.results39, go_sem, d0, d1, d2, d3, d4, d5, d6, d7, d8]) rfl ⟨congrArg Ending.returned HRV.out.symm, ?_⟩
            exact below_set9 (hb.setCell (by show w.heap.size ≤ w.heap.size + 1 + 1; omega) _) (by show w.heap.size ≤ w.heap.size + 1; omega) _ _ _ _ _ _ _ _ _
      · have HRV := Lib.hid (HR.out.trans HV1.out)
        rw [negC_00] at G3
        obtain ⟨⟨d0, d1, d2, d3, d4, d5, d6, d7, d8⟩, f0, f1, f2, f3, f4, f5, f6, f7, f8⟩ := Z3.cells9
        obtain ⟨⟨c0, c1, c2, c3, c4, c5, c6, c7, c8⟩, _⟩ := G3.cells9
        go_wp2
        refine bodyPost_ret (v := .agg #[.int .i64 (X 0), .int .i64 (X 1), .int .i64 (X 2), .int .i64 (X 3), .int .i64 (X 4), .int .i64 (X 5), .int .i64 (X 6), .int .i64 (X 7), .int .i64 0]) (by simp [results, Tryz.results39, go_sem, d0, d1, d2, d3, d4, d5, d6, d7, d8]) rfl ⟨congrArg Ending.returned HRV.out.symm, ?_⟩
        exact below_set9 S3 (by show w.heap.size ≤ w.heap.size + 1; omega) _ _ _ _ _ _ _ _ _

set_option maxHeartbeats 4000000 in
set_option maxRecDepth 100000 in
theorem ref_Row_3 (n : Int) (sv tv : Value) (s t : List Int) (holds : Bool) (w : World) (hs : IsInts w sv s) (ht : IsInts w tv t) (hc : Venn.atomChk ⟨3, s, t, n⟩ = 0) :
    Calls Tryz.prog 39 #[.agg #[.int .i64 3, sv, tv, .int .i64 n], .bool holds] w (Keeps (rowV ⟨3, s, t, n⟩ holds) w) := by
  obtain ⟨sA, sc, rfl, hs'⟩ := hs
  obtain ⟨tA, tc, rfl, ht'⟩ := ht
  have HS := Lib.hid (show IsInts w (.slice sA s.length sc) s from ⟨sA, sc, rfl, hs'⟩)
  have HT := Lib.hid (show IsInts w (.slice tA t.length tc) t from ⟨tA, tc, rfl, ht'⟩)
  obtain ⟨_, _, hcs, hct, hct2, hn1, hn2, hn3⟩ := Venn.atomChk_parts hc
  simp only at hcs hct hct2 hn1 hn2 hn3
  have HCS := Lib.hid hcs
  
  
  have HSTEP := Lib.hid (show ∀ k : Nat, k < 8 → ∀ bs bt : Bool, Venn.bit (Venn.lies s k) 0 = bs → Venn.rowT ⟨3, s, t, n⟩ true k = if bs = true then -1 else 0 from fun k hk bs bt h1  => by
    have e := Venn.rowT_lies ⟨3, s, t, n⟩ k hk
    rw [e]
    simp only [Venn.timesV]
    rw [lies_bit s k, h1]
    
    
    cases bs <;> cases bt <;> simp)
  have HB := Lib.hid (fun f => rowT_bound ⟨3, s, t, n⟩ f)
  have HV1 := Lib.hid (show rowV ⟨3, s, t, n⟩ true = .agg #[.int .i64 (Venn.rowT ⟨3, s, t, n⟩ true 0), .int .i64 (Venn.rowT ⟨3, s, t, n⟩ true 1), .int .i64 (Venn.rowT ⟨3, s, t, n⟩ true 2), .int .i64 (Venn.rowT ⟨3, s, t, n⟩ true 3), .int .i64 (Venn.rowT ⟨3, s, t, n⟩ true 4), .int .i64 (Venn.rowT ⟨3, s, t, n⟩ true 5), .int .i64 (Venn.rowT ⟨3, s, t, n⟩ true 6), .int .i64 (Venn.rowT ⟨3, s, t, n⟩ true 7), .int .i64 (-n)] by
    simp [rowV, Venn.rowM])
  have HV0 := Lib.hid (show rowV ⟨3, s, t, n⟩ false = .agg #[.int .i64 (-Venn.rowT ⟨3, s, t, n⟩ true 0), .int .i64 (-Venn.rowT ⟨3, s, t, n⟩ true 1), .int .i64 (-Venn.rowT ⟨3, s, t, n⟩ true 2), .int .i64 (-Venn.rowT ⟨3, s, t, n⟩ true 3), .int .i64 (-Venn.rowT ⟨3, s, t, n⟩ true 4), .int .i64 (-Venn.rowT ⟨3, s, t, n⟩ true 5), .int .i64 (-Venn.rowT ⟨3, s, t, n⟩ true 6), .int .i64 (-Venn.rowT ⟨3, s, t, n⟩ true 7), .int .i64 (-((-n) + 1))] by
    simp [rowV, rowT_neg, Venn.rowM]; omega)
  obtain ⟨R, hR⟩ : ∃ R, R = rowV ⟨3, s, t, n⟩ holds := ⟨_, rfl⟩
  have HR := Lib.hid hR
  rw [← hR]
  generalize hX : Venn.rowT ⟨3, s, t, n⟩ true = X at HSTEP HB HV1 HV0
  clear hs' ht' hc hcs hct hct2 hn3 hR hX
  go_enter Tryz.func39, Tryz.ntmps39
  go_wp2
  go_loopw [6] (fun i wr => ∃ k : Nat, k ≤ 8 ∧ i = .int .i64 k ∧ Below w.heap.size w wr ∧ Blk wr w.heap.size 46 #[.int .i64 3, .slice sA s.length sc, .slice tA t.length tc, .int .i64 n] ∧ Blk wr (w.heap.size + 1) 79 zero9 ∧ Blk wr (w.heap.size + 1 + 1) 79 (upC X k))
    (fun i _ => 8 - (intOf i).toNat)
  case atStart =>
    refine ⟨0, by omega, rfl, by (repeat' (first | (with_reducible exact Below.refl _ _) | (with_reducible assumption) | (with_reducible refine Below.next ?_ (by with_reducible assumption)) | (with_reducible refine Below.drew ?_) | (with_reducible refine Below.laid ?_ _) | (with_reducible refine Below.setCell ?_ ?_ _) | (with_reducible refine size_of ?_) | (with_reducible refine Nat.le_succ_of_le ?_) | go_size)), ?_, ?_, ?_⟩
    · exact ((Blk.new _ _ _).alloc _).alloc _
    · exact (Blk.newAt (by simp) _ _).alloc _
    · simpa [upC] using Blk.newAt (by simp) _ _
  case round =>
    obtain ⟨k, hk, rfl, hw1, BA, BZ, BR⟩ := hrel
    obtain ⟨wo, rfl⟩ : ∃ wo : World, wo = wr := ⟨_, rfl⟩
    obtain ⟨BA0, BA1, BA2, BA3⟩ := BA.cells4
    have BAl := BA.lt
    by_cases hlt : k < 8
    · have hk0 : (0 : Int) ≤ (k : Int) := by omega
      have hk1 : (k : Int) < 8 := by omega
      go_wp2_with fail
      refine (ref_Lies _ s k _ (HS.out.keep (by (repeat' (first | (with_reducible exact Below.refl _ _) | (with_reducible assumption) | (with_reducible refine Below.next ?_ (by with_reducible assumption)) | (with_reducible refine Below.drew ?_) | (with_reducible refine Below.laid ?_ _) | (with_reducible refine Below.setCell ?_ ?_ _) | (with_reducible refine size_of ?_) | (with_reducible refine Nat.le_succ_of_le ?_) | go_size)))) HCS.out hlt).mono ?_
      rintro e w2 ⟨rfl, hb2⟩
      have hw2 := Below.next hw1 hb2
      clear BA0 BA1 BA2 BA3 BAl
      replace BA := BA.keep hb2
      replace BZ := BZ.keep hb2
      replace BR := BR.keep hb2
      obtain ⟨BA0, BA1, BA2, BA3⟩ := BA.cells4
      have BAl := BA.lt
      have hw3 := hw2
      have c1 := (BR.cell k).trans (upC_at X k hlt)
      have c2 := BR.frozen k
      have hbl := BR.lt
      have hstep := HSTEP.out k hlt
      cases hbs : Venn.bit (Venn.lies s k) 0
      · have HXK := Lib.hid (show X k = 0 by have := hstep false false hbs; simpa using this)
        have G := BR.set_ k (.int .i64 (X k))
        rw [upC_set X k hlt, HXK.out] at G
        clear hbs hstep
        go_wp2
        go_roundw
        case rel => exact ⟨k + 1, by omega, by go_num, hw3.setCell (by show w.heap.size ≤ w.heap.size + 1 + 1; omega) _, BA.far (by show ¬ w.heap.size = w.heap.size + 1 + 1; omega) _, BZ.far (by show ¬ w.heap.size + 1 = w.heap.size + 1 + 1; omega) _, G⟩
        case measure => simp [intOf]; omega
      · have HXK := Lib.hid (show X k = -1 by have := hstep true false hbs; simpa using this)
        have G := BR.set_ k (.int .i64 (X k))
        rw [upC_set X k hlt, HXK.out] at G
        clear hbs hstep
        go_wp2
        go_roundw
        case rel => exact ⟨k + 1, by omega, by go_num, hw3.setCell (by show w.heap.size ≤ w.heap.size + 1 + 1; omega) _, BA.far (by show ¬ w.heap.size = w.heap.size + 1 + 1; omega) _, BZ.far (by show ¬ w.heap.size + 1 = w.heap.size + 1 + 1; omega) _, G⟩
        case measure => simp [intOf]; omega
    · obtain rfl : k = 8 := by omega
      have hk1 : ¬ ((8 : Nat) : Int) < 8 := by decide
      have c8 := BR.cell 8
      have f8 := BR.frozen 8
      have hbl := BR.lt
      rw [show (upC X 8)[8]? = some (.int .i64 0) from rfl] at c8
      have hwr : IntKind.i64.wrap (-n) = -n := wrap_of (by omega) (by omega)
      have G3 := BR.set_ 8 (.int .i64 (-n))
      rw [upC_8] at G3
      go_upto_if 82 with (fail)
      have S3 := hw1.setCell (p := ⟨w.heap.size + 1 + 1, 8, none⟩) (by show w.heap.size ≤ w.heap.size + 1 + 1; omega) (.int .i64 (-n))
      have Z3 := BZ.far (p := ⟨w.heap.size + 1 + 1, 8, none⟩) (by simp) (.int .i64 (-n))
      clear BA0 BA1 BA2 BA3 BAl BA BZ BR c8 f8 hbl hw1
      revert G3 S3 Z3
      generalize World.setCell _ _ _ = wx
      intro G3 S3 Z3
      have hgl3 := G3.lt
      have hrl3 := Z3.lt
      cases holds
      · go_wp2
        go_loopw [10] (fun i wr => ∃ k : Nat, k ≤ 8 ∧ i = .int .i64 k ∧ Below w.heap.size w wr ∧ Blk wr (w.heap.size + 1) 79 zero9 ∧ Blk wr (w.heap.size + 1 + 1) 79 (negC X (-n) k))
          (fun i _ => 8 - (intOf i).toNat)
        case atStart => exact ⟨0, by omega, rfl, S3, Z3, G3⟩
        case round =>
          clear G3 Z3 S3
          obtain ⟨k, hk, rfl, hb, hRR, hG⟩ := hrel
          have hgl4 := hG.lt
          have hM : -20 ≤ (-n) ∧ (-n) ≤ 20 := by omega
          by_cases hlt : (k : Int) < 8
          · have hc := hG.cell k
            have hfz := hG.frozen k
            rw [negC_at _ _ _ (by omega)] at hc
            have hx := HB.out k
            have hG' := hG.set_ k (.int .i64 (-(X k)))
            rw [negC_set _ _ _ (by omega)] at hG'
            have hwr : IntKind.i64.wrap (-(X k)) = -(X k) := wrap_of (by omega) (by omega)
            generalize X k = Y at hc hG' hwr
            clear hx
            have hk0 : (0 : Int) ≤ (k : Int) := by omega
            go_wp2
            go_roundw
            case rel => exact ⟨k + 1, by omega, by go_num, hb.setCell (by show w.heap.size ≤ w.heap.size + 1 + 1; omega) _, hRR.far (by simp) _, hG'⟩
            case measure => simp [intOf]; omega
          · obtain rfl : k = 8 := by omega
            rw [negC_8] at hG
            have f8 := hG.frozen 8
            have c8' := hG.cell 8
            simp at c8'
            have hG' := hG.set_ 8 (.int .i64 (-((-n) + 1)))
            obtain ⟨⟨c0, c1, c2, c3, c4, c5, c6, c7, c8⟩, _⟩ := hG'.cells9
            obtain ⟨⟨d0, d1, d2, d3, d4, d5, d6, d7, d8⟩, g0, g1, g2, g3, g4, g5, g6, g7, g8⟩ := (hRR.far (p := ⟨w.heap.size + 1 + 1, 8, none⟩) (by simp) (.int .i64 (-((-n) + 1)))).cells9
            have hwr : IntKind.i64.wrap ((-n) + 1) = (-n) + 1 := wrap_of (by omega) (by omega)
            have hwr2 : IntKind.i64.wrap (-((-n) + 1)) = -((-n) + 1) := wrap_of (by omega) (by omega)
            have HRV := Lib.hid (HR.out.trans HV0.out)
            go_wp2
            refine bodyPost_ret (v := .agg #[.int .i64 (-X 0), .int .i64 (-X 1), .int .i64 (-X 2), .int .i64 (-X 3), .int .i64 (-X 4), .int .i64 (-X 5), .int .i64 (-X 6), .int .i64 (-X 7), .int .i64 (-((-n) + 1))]) (by simp [results, Tryz.results39, go_sem, d0, d1, d2, d3, d4, d5, d6, d7, d8]) rfl ⟨congrArg Ending.returned HRV.out.symm, ?_⟩
            exact below_set9 (hb.setCell (by show w.heap.size ≤ w.heap.size + 1 + 1; omega) _) (by show w.heap.size ≤ w.heap.size + 1; omega) _ _ _ _ _ _ _ _ _
      · have HRV := Lib.hid (HR.out.trans HV1.out)
        rw [negC_00] at G3
        obtain ⟨⟨d0, d1, d2, d3, d4, d5, d6, d7, d8⟩, f0, f1, f2, f3, f4, f5, f6, f7, f8⟩ := Z3.cells9
        obtain ⟨⟨c0, c1, c2, c3, c4, c5, c6, c7, c8⟩, _⟩ := G3.cells9
        go_wp2
        refine bodyPost_ret (v := .agg #[.int .i64 (X 0), .int .i64 (X 1), .int .i64 (X 2), .int .i64 (X 3), .int .i64 (X 4), .int .i64 (X 5), .int .i64 (X 6), .int .i64 (X 7), .int .i64 (-n)]) (by simp [results, Tryz.results39, go_sem, d0, d1, d2, d3, d4, d5, d6, d7, d8]) rfl ⟨congrArg Ending.returned HRV.out.symm, ?_⟩
        exact below_set9 S3 (by show w.heap.size ≤ w.heap.size + 1; omega) _ _ _ _ _ _ _ _ _

set_option maxHeartbeats 4000000 in
set_option maxRecDepth 100000 in
theorem ref_Row_4 (n : Int) (sv tv : Value) (s t : List Int) (holds : Bool) (w : World) (hs : IsInts w sv s) (ht : IsInts w tv t) (hc : Venn.atomChk ⟨4, s, t, n⟩ = 0) :
    Calls Tryz.prog 39 #[.agg #[.int .i64 4, sv, tv, .int .i64 n], .bool holds] w (Keeps (rowV ⟨4, s, t, n⟩ holds) w) := by
  obtain ⟨sA, sc, rfl, hs'⟩ := hs
  obtain ⟨tA, tc, rfl, ht'⟩ := ht
  have HS := Lib.hid (show IsInts w (.slice sA s.length sc) s from ⟨sA, sc, rfl, hs'⟩)
  have HT := Lib.hid (show IsInts w (.slice tA t.length tc) t from ⟨tA, tc, rfl, ht'⟩)
  obtain ⟨_, _, hcs, hct, hct2, hn1, hn2, hn3⟩ := Venn.atomChk_parts hc
  simp only at hcs hct hct2 hn1 hn2 hn3
  have HCS := Lib.hid hcs
  
  
  have HSTEP := Lib.hid (show ∀ k : Nat, k < 8 → ∀ bs bt : Bool, Venn.bit (Venn.lies s k) 0 = bs → Venn.rowT ⟨4, s, t, n⟩ true k = if bs = true then 1 else 0 from fun k hk bs bt h1  => by
    have e := Venn.rowT_lies ⟨4, s, t, n⟩ k hk
    rw [e]
    simp only [Venn.timesV]
    rw [lies_bit s k, h1]
    
    
    cases bs <;> cases bt <;> simp)
  have HB := Lib.hid (fun f => rowT_bound ⟨4, s, t, n⟩ f)
  have HV1 := Lib.hid (show rowV ⟨4, s, t, n⟩ true = .agg #[.int .i64 (Venn.rowT ⟨4, s, t, n⟩ true 0), .int .i64 (Venn.rowT ⟨4, s, t, n⟩ true 1), .int .i64 (Venn.rowT ⟨4, s, t, n⟩ true 2), .int .i64 (Venn.rowT ⟨4, s, t, n⟩ true 3), .int .i64 (Venn.rowT ⟨4, s, t, n⟩ true 4), .int .i64 (Venn.rowT ⟨4, s, t, n⟩ true 5), .int .i64 (Venn.rowT ⟨4, s, t, n⟩ true 6), .int .i64 (Venn.rowT ⟨4, s, t, n⟩ true 7), .int .i64 n] by
    simp [rowV, Venn.rowM])
  have HV0 := Lib.hid (show rowV ⟨4, s, t, n⟩ false = .agg #[.int .i64 (-Venn.rowT ⟨4, s, t, n⟩ true 0), .int .i64 (-Venn.rowT ⟨4, s, t, n⟩ true 1), .int .i64 (-Venn.rowT ⟨4, s, t, n⟩ true 2), .int .i64 (-Venn.rowT ⟨4, s, t, n⟩ true 3), .int .i64 (-Venn.rowT ⟨4, s, t, n⟩ true 4), .int .i64 (-Venn.rowT ⟨4, s, t, n⟩ true 5), .int .i64 (-Venn.rowT ⟨4, s, t, n⟩ true 6), .int .i64 (-Venn.rowT ⟨4, s, t, n⟩ true 7), .int .i64 (-(n + 1))] by
    simp [rowV, rowT_neg, Venn.rowM]; omega)
  obtain ⟨R, hR⟩ : ∃ R, R = rowV ⟨4, s, t, n⟩ holds := ⟨_, rfl⟩
  have HR := Lib.hid hR
  rw [← hR]
  generalize hX : Venn.rowT ⟨4, s, t, n⟩ true = X at HSTEP HB HV1 HV0
  clear hs' ht' hc hcs hct hct2 hn3 hR hX
  go_enter Tryz.func39, Tryz.ntmps39
  go_wp2
  go_loopw [6] (fun i wr => ∃ k : Nat, k ≤ 8 ∧ i = .int .i64 k ∧ Below w.heap.size w wr ∧ Blk wr w.heap.size 46 #[.int .i64 4, .slice sA s.length sc, .slice tA t.length tc, .int .i64 n] ∧ Blk wr (w.heap.size + 1) 79 zero9 ∧ Blk wr (w.heap.size + 1 + 1) 79 (upC X k))
    (fun i _ => 8 - (intOf i).toNat)
  case atStart =>
    refine ⟨0, by omega, rfl, by (repeat' (first | (with_reducible exact Below.refl _ _) | (with_reducible assumption) | (with_reducible refine Below.next ?_ (by with_reducible assumption)) | (with_reducible refine Below.drew ?_) | (with_reducible refine Below.laid ?_ _) | (with_reducible refine Below.setCell ?_ ?_ _) | (with_reducible refine size_of ?_) | (with_reducible refine Nat.le_succ_of_le ?_) | go_size)), ?_, ?_, ?_⟩
    · exact ((Blk.new _ _ _).alloc _).alloc _
    · exact (Blk.newAt (by simp) _ _).alloc _
    · simpa [upC] using Blk.newAt (by simp) _ _
  case round =>
    obtain ⟨k, hk, rfl, hw1, BA, BZ, BR⟩ := hrel
    obtain ⟨wo, rfl⟩ : ∃ wo : World, wo = wr := ⟨_, rfl⟩
    obtain ⟨BA0, BA1, BA2, BA3⟩ := BA.cells4
    have BAl := BA.lt
    by_cases hlt : k < 8
    · have hk0 : (0 : Int) ≤ (k : Int) := by omega
      have hk1 : (k : Int) < 8 := by omega
      go_wp2_with fail
      refine (ref_Lies _ s k _ (HS.out.keep (by (repeat' (first | (with_reducible exact Below.refl _ _) | (with_reducible assumption) | (with_reducible refine Below.next ?_ (by with_reducible assumption)) | (with_reducible refine Below.drew ?_) | (with_reducible refine Below.laid ?_ _) | (with_reducible refine Below.setCell ?_ ?_ _) | (with_reducible refine size_of ?_) | (with_reducible refine Nat.le_succ_of_le ?_) | go_size)))) HCS.out hlt).mono ?_
      rintro e w2 ⟨rfl, hb2⟩
      have hw2 := Below.next hw1 hb2
      clear BA0 BA1 BA2 BA3 BAl
      replace BA := BA.keep hb2
      replace BZ := BZ.keep hb2
      replace BR := BR.keep hb2
      obtain ⟨BA0, BA1, BA2, BA3⟩ := BA.cells4
      have BAl := BA.lt
      have hw3 := hw2
      have c1 := (BR.cell k).trans (upC_at X k hlt)
      have c2 := BR.frozen k
      have hbl := BR.lt
      have hstep := HSTEP.out k hlt
      cases hbs : Venn.bit (Venn.lies s k) 0
      · have HXK := Lib.hid (show X k = 0 by have := hstep false false hbs; simpa using this)
        have G := BR.set_ k (.int .i64 (X k))
        rw [upC_set X k hlt, HXK.out] at G
        clear hbs hstep
        go_wp2
        go_roundw
        case rel => exact ⟨k + 1, by omega, by go_num, hw3.setCell (by show w.heap.size ≤ w.heap.size + 1 + 1; omega) _, BA.far (by show ¬ w.heap.size = w.heap.size + 1 + 1; omega) _, BZ.far (by show ¬ w.heap.size + 1 = w.heap.size + 1 + 1; omega) _, G⟩
        case measure => simp [intOf]; omega
      · have HXK := Lib.hid (show X k = 1 by have := hstep true false hbs; simpa using this)
        have G := BR.set_ k (.int .i64 (X k))
        rw [upC_set X k hlt, HXK.out] at G
        clear hbs hstep
        go_wp2
        go_roundw
        case rel => exact ⟨k + 1, by omega, by go_num, hw3.setCell (by show w.heap.size ≤ w.heap.size + 1 + 1; omega) _, BA.far (by show ¬ w.heap.size = w.heap.size + 1 + 1; omega) _, BZ.far (by show ¬ w.heap.size + 1 = w.heap.size + 1 + 1; omega) _, G⟩
        case measure => simp [intOf]; omega
    · obtain rfl : k = 8 := by omega
      have hk1 : ¬ ((8 : Nat) : Int) < 8 := by decide
      have c8 := BR.cell 8
      have f8 := BR.frozen 8
      have hbl := BR.lt
      rw [show (upC X 8)[8]? = some (.int .i64 0) from rfl] at c8
      have G3 := BR.set_ 8 (.int .i64 n)
      rw [upC_8] at G3
      go_upto_if 82 with (fail)
      have S3 := hw1.setCell (p := ⟨w.heap.size + 1 + 1, 8, none⟩) (by show w.heap.size ≤ w.heap.size + 1 + 1; omega) (.int .i64 n)
      have Z3 := BZ.far (p := ⟨w.heap.size + 1 + 1, 8, none⟩) (by simp) (.int .i64 n)
      clear BA0 BA1 BA2 BA3 BAl BA BZ BR c8 f8 hbl hw1
      revert G3 S3 Z3
      generalize World.setCell _ _ _ = wx
      intro G3 S3 Z3
      have hgl3 := G3.lt
      have hrl3 := Z3.lt
      cases holds
      · go_wp2
        go_loopw [10] (fun i wr => ∃ k : Nat, k ≤ 8 ∧ i = .int .i64 k ∧ Below w.heap.size w wr ∧ Blk wr (w.heap.size + 1) 79 zero9 ∧ Blk wr (w.heap.size + 1 + 1) 79 (negC X n k))
          (fun i _ => 8 - (intOf i).toNat)
        case atStart => exact ⟨0, by omega, rfl, S3, Z3, G3⟩
        case round =>
          clear G3 Z3 S3
          obtain ⟨k, hk, rfl, hb, hRR, hG⟩ := hrel
          have hgl4 := hG.lt
          have hM : -20 ≤ n ∧ n ≤ 20 := by omega
          by_cases hlt : (k : Int) < 8
          · have hc := hG.cell k
            have hfz := hG.frozen k
            rw [negC_at _ _ _ (by omega)] at hc
            have hx := HB.out k
            have hG' := hG.set_ k (.int .i64 (-(X k)))
            rw [negC_set _ _ _ (by omega)] at hG'
            have hwr : IntKind.i64.wrap (-(X k)) = -(X k) := wrap_of (by omega) (by omega)
            generalize X k = Y at hc hG' hwr
            clear hx
            have hk0 : (0 : Int) ≤ (k : Int) := by omega
            go_wp2
            go_roundw
            case rel => exact ⟨k + 1, by omega, by go_num, hb.setCell (by show w.heap.size ≤ w.heap.size + 1 + 1; omega) _, hRR.far (by simp) _, hG'⟩
            case measure => simp [intOf]; omega
          · obtain rfl : k = 8 := by omega
            rw [negC_8] at hG
            have f8 := hG.frozen 8
            have c8' := hG.cell 8
            simp at c8'
            have hG' := hG.set_ 8 (.int .i64 (-(n + 1)))
            obtain ⟨⟨c0, c1, c2, c3, c4, c5, c6, c7, c8⟩, _⟩ := hG'.cells9
            obtain ⟨⟨d0, d1, d2, d3, d4, d5, d6, d7, d8⟩, g0, g1, g2, g3, g4, g5, g6, g7, g8⟩ := (hRR.far (p := ⟨w.heap.size + 1 + 1, 8, none⟩) (by simp) (.int .i64 (-(n + 1)))).cells9
            have hwr : IntKind.i64.wrap (n + 1) = n + 1 := wrap_of (by omega) (by omega)
            have hwr2 : IntKind.i64.wrap (-(n + 1)) = -(n + 1) := wrap_of (by omega) (by omega)
            have HRV := Lib.hid (HR.out.trans HV0.out)
            go_wp2
            refine bodyPost_ret (v := .agg #[.int .i64 (-X 0), .int .i64 (-X 1), .int .i64 (-X 2), .int .i64 (-X 3), .int .i64 (-X 4), .int .i64 (-X 5), .int .i64 (-X 6), .int .i64 (-X 7), .int .i64 (-(n + 1))]) (by simp [results, Tryz.results39, go_sem, d0, d1, d2, d3, d4, d5, d6, d7, d8]) rfl ⟨congrArg Ending.returned HRV.out.symm, ?_⟩
            exact below_set9 (hb.setCell (by show w.heap.size ≤ w.heap.size + 1 + 1; omega) _) (by show w.heap.size ≤ w.heap.size + 1; omega) _ _ _ _ _ _ _ _ _
      · have HRV := Lib.hid (HR.out.trans HV1.out)
        rw [negC_00] at G3
        obtain ⟨⟨d0, d1, d2, d3, d4, d5, d6, d7, d8⟩, f0, f1, f2, f3, f4, f5, f6, f7, f8⟩ := Z3.cells9
        obtain ⟨⟨c0, c1, c2, c3, c4, c5, c6, c7, c8⟩, _⟩ := G3.cells9
        go_wp2
        refine bodyPost_ret (v := .agg #[.int .i64 (X 0), .int .i64 (X 1), .int .i64 (X 2), .int .i64 (X 3), .int .i64 (X 4), .int .i64 (X 5), .int .i64 (X 6), .int .i64 (X 7), .int .i64 n]) (by simp [results, Tryz.results39, go_sem, d0, d1, d2, d3, d4, d5, d6, d7, d8]) rfl ⟨congrArg Ending.returned HRV.out.symm, ?_⟩
        exact below_set9 S3 (by show w.heap.size ≤ w.heap.size + 1; omega) _ _ _ _ _ _ _ _ _

set_option maxHeartbeats 4000000 in
set_option maxRecDepth 100000 in
theorem ref_Row_5 (n : Int) (sv tv : Value) (s t : List Int) (holds : Bool) (w : World) (hs : IsInts w sv s) (ht : IsInts w tv t) (hc : Venn.atomChk ⟨5, s, t, n⟩ = 0) :
    Calls Tryz.prog 39 #[.agg #[.int .i64 5, sv, tv, .int .i64 n], .bool holds] w (Keeps (rowV ⟨5, s, t, n⟩ holds) w) := by
  obtain ⟨sA, sc, rfl, hs'⟩ := hs
  obtain ⟨tA, tc, rfl, ht'⟩ := ht
  have HS := Lib.hid (show IsInts w (.slice sA s.length sc) s from ⟨sA, sc, rfl, hs'⟩)
  have HT := Lib.hid (show IsInts w (.slice tA t.length tc) t from ⟨tA, tc, rfl, ht'⟩)
  obtain ⟨_, _, hcs, hct, hct2, hn1, hn2, hn3⟩ := Venn.atomChk_parts hc
  simp only at hcs hct hct2 hn1 hn2 hn3
  have HCS := Lib.hid hcs
  have HCT := Lib.hid (hct (by decide))
  
  have HSTEP := Lib.hid (show ∀ k : Nat, k < 8 → ∀ bs bt : Bool, Venn.bit (Venn.lies s k) 0 = bs → Venn.bit (Venn.lies t k) 0 = bt → Venn.rowT ⟨5, s, t, n⟩ true k = if (bs && !bt) = true then 1 else if (bt && !bs) = true then -1 else 0 from fun k hk bs bt h1 h2 => by
    have e := Venn.rowT_lies ⟨5, s, t, n⟩ k hk
    rw [e]
    simp only [Venn.timesV]
    rw [lies_bit s k, h1]
    have e2 : Venn.tLies ⟨5, s, t, n⟩ k = Venn.lies t k := by unfold Venn.tLies; exact if_neg (fun h => by have := hct (by decide); simp only at h; rw [h] at this; revert this; decide)
    rw [e2, lies_bit t k, h2]
    cases bs <;> cases bt <;> simp)
  have HB := Lib.hid (fun f => rowT_bound ⟨5, s, t, n⟩ f)
  have HV1 := Lib.hid (show rowV ⟨5, s, t, n⟩ true = .agg #[.int .i64 (Venn.rowT ⟨5, s, t, n⟩ true 0), .int .i64 (Venn.rowT ⟨5, s, t, n⟩ true 1), .int .i64 (Venn.rowT ⟨5, s, t, n⟩ true 2), .int .i64 (Venn.rowT ⟨5, s, t, n⟩ true 3), .int .i64 (Venn.rowT ⟨5, s, t, n⟩ true 4), .int .i64 (Venn.rowT ⟨5, s, t, n⟩ true 5), .int .i64 (Venn.rowT ⟨5, s, t, n⟩ true 6), .int .i64 (Venn.rowT ⟨5, s, t, n⟩ true 7), .int .i64 n] by
    simp [rowV, Venn.rowM])
  have HV0 := Lib.hid (show rowV ⟨5, s, t, n⟩ false = .agg #[.int .i64 (-Venn.rowT ⟨5, s, t, n⟩ true 0), .int .i64 (-Venn.rowT ⟨5, s, t, n⟩ true 1), .int .i64 (-Venn.rowT ⟨5, s, t, n⟩ true 2), .int .i64 (-Venn.rowT ⟨5, s, t, n⟩ true 3), .int .i64 (-Venn.rowT ⟨5, s, t, n⟩ true 4), .int .i64 (-Venn.rowT ⟨5, s, t, n⟩ true 5), .int .i64 (-Venn.rowT ⟨5, s, t, n⟩ true 6), .int .i64 (-Venn.rowT ⟨5, s, t, n⟩ true 7), .int .i64 (-(n + 1))] by
    simp [rowV, rowT_neg, Venn.rowM]; omega)
  obtain ⟨R, hR⟩ : ∃ R, R = rowV ⟨5, s, t, n⟩ holds := ⟨_, rfl⟩
  have HR := Lib.hid hR
  rw [← hR]
  generalize hX : Venn.rowT ⟨5, s, t, n⟩ true = X at HSTEP HB HV1 HV0
  clear hs' ht' hc hcs hct hct2 hn3 hR hX
  go_enter Tryz.func39, Tryz.ntmps39
  go_wp2
  go_loopw [6] (fun i wr => ∃ k : Nat, k ≤ 8 ∧ i = .int .i64 k ∧ Below w.heap.size w wr ∧ Blk wr w.heap.size 46 #[.int .i64 5, .slice sA s.length sc, .slice tA t.length tc, .int .i64 n] ∧ Blk wr (w.heap.size + 1) 79 zero9 ∧ Blk wr (w.heap.size + 1 + 1) 79 (upC X k))
    (fun i _ => 8 - (intOf i).toNat)
  case atStart =>
    refine ⟨0, by omega, rfl, by (repeat' (first | (with_reducible exact Below.refl _ _) | (with_reducible assumption) | (with_reducible refine Below.next ?_ (by with_reducible assumption)) | (with_reducible refine Below.drew ?_) | (with_reducible refine Below.laid ?_ _) | (with_reducible refine Below.setCell ?_ ?_ _) | (with_reducible refine size_of ?_) | (with_reducible refine Nat.le_succ_of_le ?_) | go_size)), ?_, ?_, ?_⟩
    · exact ((Blk.new _ _ _).alloc _).alloc _
    · exact (Blk.newAt (by simp) _ _).alloc _
    · simpa [upC] using Blk.newAt (by simp) _ _
  case round =>
    obtain ⟨k, hk, rfl, hw1, BA, BZ, BR⟩ := hrel
    obtain ⟨wo, rfl⟩ : ∃ wo : World, wo = wr := ⟨_, rfl⟩
    obtain ⟨BA0, BA1, BA2, BA3⟩ := BA.cells4
    have BAl := BA.lt
    by_cases hlt : k < 8
    · have hk0 : (0 : Int) ≤ (k : Int) := by omega
      have hk1 : (k : Int) < 8 := by omega
      go_wp2_with fail
      refine (ref_Lies _ s k _ (HS.out.keep (by (repeat' (first | (with_reducible exact Below.refl _ _) | (with_reducible assumption) | (with_reducible refine Below.next ?_ (by with_reducible assumption)) | (with_reducible refine Below.drew ?_) | (with_reducible refine Below.laid ?_ _) | (with_reducible refine Below.setCell ?_ ?_ _) | (with_reducible refine size_of ?_) | (with_reducible refine Nat.le_succ_of_le ?_) | go_size)))) HCS.out hlt).mono ?_
      rintro e w2 ⟨rfl, hb2⟩
      have hw2 := Below.next hw1 hb2
      clear BA0 BA1 BA2 BA3 BAl
      replace BA := BA.keep hb2
      replace BZ := BZ.keep hb2
      replace BR := BR.keep hb2
      obtain ⟨BA0, BA1, BA2, BA3⟩ := BA.cells4
      have BAl := BA.lt
      go_wp2_with fail
      refine (ref_Lies _ t k _ (HT.out.keep (by (repeat' (first | (with_reducible exact Below.refl _ _) | (with_reducible assumption) | (with_reducible refine Below.next ?_ (by with_reducible assumption)) | (with_reducible refine Below.drew ?_) | (with_reducible refine Below.laid ?_ _) | (with_reducible refine Below.setCell ?_ ?_ _) | (with_reducible refine size_of ?_) | (with_reducible refine Nat.le_succ_of_le ?_) | go_size)))) HCT.out hlt).mono ?_
      rintro e w3 ⟨rfl, hb3⟩
      have hw3 := Below.next hw2 hb3
      clear BA0 BA1 BA2 BA3 BAl
      replace BA := BA.keep hb3
      replace BZ := BZ.keep hb3
      replace BR := BR.keep hb3
      obtain ⟨BA0, BA1, BA2, BA3⟩ := BA.cells4
      have BAl := BA.lt
      have c1 := (BR.cell k).trans (upC_at X k hlt)
      have c2 := BR.frozen k
      have hbl := BR.lt
      have hstep := HSTEP.out k hlt
      cases hbs : Venn.bit (Venn.lies s k) 0
      · cases hbt : Venn.bit (Venn.lies t k) 0
        · have HXK := Lib.hid (show X k = 0 by have := hstep false false hbs hbt; simpa using this)
          have G := BR.set_ k (.int .i64 (X k))
          rw [upC_set X k hlt, HXK.out] at G
          clear hbs hbt hstep
          go_wp2
          go_roundw
          case rel => exact ⟨k + 1, by omega, by go_num, hw3.setCell (by show w.heap.size ≤ w.heap.size + 1 + 1; omega) _, BA.far (by show ¬ w.heap.size = w.heap.size + 1 + 1; omega) _, BZ.far (by show ¬ w.heap.size + 1 = w.heap.size + 1 + 1; omega) _, G⟩
          case measure => simp [intOf]; omega
        · have HXK := Lib.hid (show X k = -1 by have := hstep false true hbs hbt; simpa using this)
          have G := BR.set_ k (.int .i64 (X k))
          rw [upC_set X k hlt, HXK.out] at G
          clear hbs hbt hstep
          go_wp2
          go_roundw
          case rel => exact ⟨k + 1, by omega, by go_num, hw3.setCell (by show w.heap.size ≤ w.heap.size + 1 + 1; omega) _, BA.far (by show ¬ w.heap.size = w.heap.size + 1 + 1; omega) _, BZ.far (by show ¬ w.heap.size + 1 = w.heap.size + 1 + 1; omega) _, G⟩
          case measure => simp [intOf]; omega
      · cases hbt : Venn.bit (Venn.lies t k) 0
        · have HXK := Lib.hid (show X k = 1 by have := hstep true false hbs hbt; simpa using this)
          have G := BR.set_ k (.int .i64 (X k))
          rw [upC_set X k hlt, HXK.out] at G
          clear hbs hbt hstep
          go_wp2
          go_roundw
          case rel => exact ⟨k + 1, by omega, by go_num, hw3.setCell (by show w.heap.size ≤ w.heap.size + 1 + 1; omega) _, BA.far (by show ¬ w.heap.size = w.heap.size + 1 + 1; omega) _, BZ.far (by show ¬ w.heap.size + 1 = w.heap.size + 1 + 1; omega) _, G⟩
          case measure => simp [intOf]; omega
        · have HXK := Lib.hid (show X k = 0 by have := hstep true true hbs hbt; simpa using this)
          have G := BR.set_ k (.int .i64 (X k))
          rw [upC_set X k hlt, HXK.out] at G
          clear hbs hbt hstep
          go_wp2
          go_roundw
          case rel => exact ⟨k + 1, by omega, by go_num, hw3.setCell (by show w.heap.size ≤ w.heap.size + 1 + 1; omega) _, BA.far (by show ¬ w.heap.size = w.heap.size + 1 + 1; omega) _, BZ.far (by show ¬ w.heap.size + 1 = w.heap.size + 1 + 1; omega) _, G⟩
          case measure => simp [intOf]; omega
    · obtain rfl : k = 8 := by omega
      have hk1 : ¬ ((8 : Nat) : Int) < 8 := by decide
      have c8 := BR.cell 8
      have f8 := BR.frozen 8
      have hbl := BR.lt
      rw [show (upC X 8)[8]? = some (.int .i64 0) from rfl] at c8
      have G3 := BR.set_ 8 (.int .i64 n)
      rw [upC_8] at G3
      go_upto_if 82 with (fail)
      have S3 := hw1.setCell (p := ⟨w.heap.size + 1 + 1, 8, none⟩) (by show w.heap.size ≤ w.heap.size + 1 + 1; omega) (.int .i64 n)
      have Z3 := BZ.far (p := ⟨w.heap.size + 1 + 1, 8, none⟩) (by simp) (.int .i64 n)
      clear BA0 BA1 BA2 BA3 BAl BA BZ BR c8 f8 hbl hw1
      revert G3 S3 Z3
      generalize World.setCell _ _ _ = wx
      intro G3 S3 Z3
      have hgl3 := G3.lt
      have hrl3 := Z3.lt
      cases holds
      · go_wp2
        go_loopw [10] (fun i wr => ∃ k : Nat, k ≤ 8 ∧ i = .int .i64 k ∧ Below w.heap.size w wr ∧ Blk wr (w.heap.size + 1) 79 zero9 ∧ Blk wr (w.heap.size + 1 + 1) 79 (negC X n k))
          (fun i _ => 8 - (intOf i).toNat)
        case atStart => exact ⟨0, by omega, rfl, S3, Z3, G3⟩
        case round =>
          clear G3 Z3 S3
          obtain ⟨k, hk, rfl, hb, hRR, hG⟩ := hrel
          have hgl4 := hG.lt
          have hM : -20 ≤ n ∧ n ≤ 20 := by omega
          by_cases hlt : (k : Int) < 8
          · have hc := hG.cell k
            have hfz := hG.frozen k
            rw [negC_at _ _ _ (by omega)] at hc
            have hx := HB.out k
            have hG' := hG.set_ k (.int .i64 (-(X k)))
            rw [negC_set _ _ _ (by omega)] at hG'
            have hwr : IntKind.i64.wrap (-(X k)) = -(X k) := wrap_of (by omega) (by omega)
            generalize X k = Y at hc hG' hwr
            clear hx
            have hk0 : (0 : Int) ≤ (k : Int) := by omega
            go_wp2
            go_roundw
            case rel => exact ⟨k + 1, by omega, by go_num, hb.setCell (by show w.heap.size ≤ w.heap.size + 1 + 1; omega) _, hRR.far (by simp) _, hG'⟩
            case measure => simp [intOf]; omega
          · obtain rfl : k = 8 := by omega
            rw [negC_8] at hG
            have f8 := hG.frozen 8
            have c8' := hG.cell 8
            simp at c8'
            have hG' := hG.set_ 8 (.int .i64 (-(n + 1)))
            obtain ⟨⟨c0, c1, c2, c3, c4, c5, c6, c7, c8⟩, _⟩ := hG'.cells9
            obtain ⟨⟨d0, d1, d2, d3, d4, d5, d6, d7, d8⟩, g0, g1, g2, g3, g4, g5, g6, g7, g8⟩ := (hRR.far (p := ⟨w.heap.size + 1 + 1, 8, none⟩) (by simp) (.int .i64 (-(n + 1)))).cells9
            have hwr : IntKind.i64.wrap (n + 1) = n + 1 := wrap_of (by omega) (by omega)
            have hwr2 : IntKind.i64.wrap (-(n + 1)) = -(n + 1) := wrap_of (by omega) (by omega)
            have HRV := Lib.hid (HR.out.trans HV0.out)
            go_wp2
            refine bodyPost_ret (v := .agg #[.int .i64 (-X 0), .int .i64 (-X 1), .int .i64 (-X 2), .int .i64 (-X 3), .int .i64 (-X 4), .int .i64 (-X 5), .int .i64 (-X 6), .int .i64 (-X 7), .int .i64 (-(n + 1))]) (by simp [results, Tryz.results39, go_sem, d0, d1, d2, d3, d4, d5, d6, d7, d8]) rfl ⟨congrArg Ending.returned HRV.out.symm, ?_⟩
            exact below_set9 (hb.setCell (by show w.heap.size ≤ w.heap.size + 1 + 1; omega) _) (by show w.heap.size ≤ w.heap.size + 1; omega) _ _ _ _ _ _ _ _ _
      · have HRV := Lib.hid (HR.out.trans HV1.out)
        rw [negC_00] at G3
        obtain ⟨⟨d0, d1, d2, d3, d4, d5, d6, d7, d8⟩, f0, f1, f2, f3, f4, f5, f6, f7, f8⟩ := Z3.cells9
        obtain ⟨⟨c0, c1, c2, c3, c4, c5, c6, c7, c8⟩, _⟩ := G3.cells9
        go_wp2
        refine bodyPost_ret (v := .agg #[.int .i64 (X 0), .int .i64 (X 1), .int .i64 (X 2), .int .i64 (X 3), .int .i64 (X 4), .int .i64 (X 5), .int .i64 (X 6), .int .i64 (X 7), .int .i64 n]) (by simp [results, Tryz.results39, go_sem, d0, d1, d2, d3, d4, d5, d6, d7, d8]) rfl ⟨congrArg Ending.returned HRV.out.symm, ?_⟩
        exact below_set9 S3 (by show w.heap.size ≤ w.heap.size + 1; omega) _ _ _ _ _ _ _ _ _

/-- The reference's Row, of an atom that stands. -/
theorem ref_Row (what n : Int) (sv tv : Value) (s t : List Int) (holds : Bool) (w : World) (hs : IsInts w sv s) (ht : IsInts w tv t) (hc : Venn.atomChk ⟨what, s, t, n⟩ = 0) :
    Calls Tryz.prog 39 #[.agg #[.int .i64 what, sv, tv, .int .i64 n], .bool holds] w (Keeps (rowV ⟨what, s, t, n⟩ holds) w) := by
  obtain ⟨h1, h2, _⟩ := Venn.atomChk_parts hc
  simp only at h1 h2
  rcases (by omega : what = 1 ∨ what = 2 ∨ what = 3 ∨ what = 4 ∨ what = 5) with rfl | rfl | rfl | rfl | rfl
  · exact ref_Row_1 n sv tv s t holds w hs ht hc
  · exact ref_Row_2 n sv tv s t holds w hs ht hc
  · exact ref_Row_3 n sv tv s t holds w hs ht hc
  · exact ref_Row_4 n sv tv s t holds w hs ht hc
  · exact ref_Row_5 n sv tv s t holds w hs ht hc
end Go.Proofs.YtpkleioabinkkaaGreatDoor
