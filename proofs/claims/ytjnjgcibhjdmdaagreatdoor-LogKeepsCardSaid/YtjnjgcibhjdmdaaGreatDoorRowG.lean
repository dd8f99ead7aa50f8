/-
  THE WALK of rows.times.
  THE WALKS of fields.Check and fit.after.
  THE WALKS of rows.Row, rows.Of.
  WORDS FOR SLICES OF ROWS, and the walks of rows.So, rows.Check, rows.Fits.
  THE WALK of rows.Check.
  append(row, l...): a list of integers onto a row of the call's own; the source nil, empty or not.
  append of rows onto a row of the call's own; the walk of rows.Fits.
-/
import Derived.Test.YtjnjgcibhjdmdaaGreatDoorVennP1
import Derived.Test.YtjnjgcibhjdmdaaGreatDoorMem
import Derived.Deep.QuietTactic
import Derived.BigQuiet
import Derived.RegionTactic
import Derived.Test.YtjnjgcibhjdmdaaGreatDoorSetsT
import Derived.Test.YtjnjgcibhjdmdaaGreatDoorAtomG
import Derived.Deep.RegionHeld3
import Derived.Deep.DeepCutAuto
namespace Go.Proofs.YtjnjgcibhjdmdaaGreatDoor
open Go.RowKit

def timesCells (what s t : Int) (k : Nat) : Array Value := ((List.range 8).map fun i => Value.int .i64 (if i < k then Venn.timesAt what s t i else 0)).toArray
theorem timesCells_set (what s t : Int) (k : Nat) (hk : k < 8) : (timesCells what s t k).setIfInBounds k (.int .i64 (Venn.timesAt what s t k)) = timesCells what s t (k + 1) := by
  unfold timesCells
  rcases (by omega : k = 0 ∨ k = 1 ∨ k = 2 ∨ k = 3 ∨ k = 4 ∨ k = 5 ∨ k = 6 ∨ k = 7) with rfl | rfl | rfl | rfl | rfl | rfl | rfl | rfl
  all_goals simp [List.range_succ]
theorem timesCells_8 (what s t : Int) : timesCells what s t 8 = #[.int .i64 (Venn.timesAt what s t 0), .int .i64 (Venn.timesAt what s t 1), .int .i64 (Venn.timesAt what s t 2), .int .i64 (Venn.timesAt what s t 3), .int .i64 (Venn.timesAt what s t 4), .int .i64 (Venn.timesAt what s t 5), .int .i64 (Venn.timesAt what s t 6), .int .i64 (Venn.timesAt what s t 7)] := by
  simp [timesCells, List.range_succ]
theorem timesCells_0 (what s t : Int) : timesCells what s t 0 = #[.int .i64 0, .int .i64 0, .int .i64 0, .int .i64 0, .int .i64 0, .int .i64 0, .int .i64 0, .int .i64 0] := by
  simp [timesCells, List.range_succ]
theorem Blk.cells8 {w : World} {g : Nat} {t : TypeId} {x0 x1 x2 x3 x4 x5 x6 x7 : Value} (h : Blk w g t #[x0, x1, x2, x3, x4, x5, x6, x7]) :
    (w.cell? ⟨g, 0, none⟩ = some x0 ∧ w.cell? ⟨g, 1, none⟩ = some x1 ∧ w.cell? ⟨g, 2, none⟩ = some x2 ∧ w.cell? ⟨g, 3, none⟩ = some x3 ∧ w.cell? ⟨g, 4, none⟩ = some x4 ∧ w.cell? ⟨g, 5, none⟩ = some x5 ∧ w.cell? ⟨g, 6, none⟩ = some x6 ∧ w.cell? ⟨g, 7, none⟩ = some x7) ∧
    (w.frozen? ⟨g, 0, none⟩ = false ∧ w.frozen? ⟨g, 1, none⟩ = false ∧ w.frozen? ⟨g, 2, none⟩ = false ∧ w.frozen? ⟨g, 3, none⟩ = false ∧ w.frozen? ⟨g, 4, none⟩ = false ∧ w.frozen? ⟨g, 5, none⟩ = false ∧ w.frozen? ⟨g, 6, none⟩ = false ∧ w.frozen? ⟨g, 7, none⟩ = false) :=
  ⟨⟨h.cell 0, h.cell 1, h.cell 2, h.cell 3, h.cell 4, h.cell 5, h.cell 6, h.cell 7⟩, h.frozen 0, h.frozen 1, h.frozen 2, h.frozen 3, h.frozen 4, h.frozen 5, h.frozen 6, h.frozen 7⟩
theorem below_set8 {B : Nat} {a w : World} (h : Below B a w) {g : Nat} (hg : B ≤ g) (x0 x1 x2 x3 x4 x5 x6 x7 : Value) :
    Below B a ((((((((w.setCell ⟨g, 0, none⟩ x0).setCell ⟨g, 1, none⟩ x1).setCell ⟨g, 2, none⟩ x2).setCell ⟨g, 3, none⟩ x3).setCell ⟨g, 4, none⟩ x4).setCell ⟨g, 5, none⟩ x5).setCell ⟨g, 6, none⟩ x6).setCell ⟨g, 7, none⟩ x7) :=
  (((((((h.setCell (p := ⟨g, 0, none⟩) hg _).setCell (p := ⟨g, 1, none⟩) hg _).setCell (p := ⟨g, 2, none⟩) hg _).setCell (p := ⟨g, 3, none⟩) hg _).setCell (p := ⟨g, 4, none⟩) hg _).setCell (p := ⟨g, 5, none⟩) hg _).setCell (p := ⟨g, 6, none⟩) hg _).setCell (p := ⟨g, 7, none⟩) hg _
theorem and_one (s : Int) (k : Nat) (hs : 0 ≤ s ∧ s ≤ 255) : bits .and .i64 (s / 2 ^ k) 1 = Venn.bitI s k := by
  obtain ⟨S, rfl⟩ := Int.eq_ofNat_of_zero_le hs.1
  have e : ((S : Int) / 2 ^ k) = ((S / 2 ^ k : Nat) : Int) := by simp
  have hle : S / 2 ^ k ≤ S := Nat.div_le_self _ _
  have := i64_and_nat (S / 2 ^ k) 1 (by omega) (by omega)
  unfold Venn.bitI
  rw [e]
  rw [show ((1 : Nat) : Int) = 1 from rfl] at this
  rw [this, Nat.and_one_is_mod]
  simp
theorem bits01 : ∀ a b : Fin 2, bits .andNot .i64 (a.val : Int) (b.val : Int) = Venn.timesV 1 a.val b.val ∧ bits .xor .i64 (a.val : Int) (b.val : Int) = Venn.timesV 2 a.val b.val := by decide +kernel
theorem bits01' {a b : Int} (ha : a = 0 ∨ a = 1) (hb : b = 0 ∨ b = 1) : bits .andNot .i64 a b = Venn.timesV 1 a b ∧ bits .xor .i64 a b = Venn.timesV 2 a b := by
  rcases ha with rfl | rfl <;> rcases hb with rfl | rfl
  · exact bits01 0 0
  · exact bits01 0 1
  · exact bits01 1 0
  · exact bits01 1 1

set_option maxHeartbeats 4000000 in
set_option maxRecDepth 100000 in
theorem rows_times1 (s t : Int) (w : World) (hs : 0 ≤ s ∧ s ≤ 255) (ht : 0 ≤ t ∧ t ≤ 255) :
    Calls Tryz.prog 92 #[.int .i64 1, .int .i64 s, .int .i64 t] w (Keeps (.agg (timesCells 1 s t 8)) w) := by
  rw [timesCells_8]
  go_enter Tryz.func92, Tryz.ntmps92
  go_wp2
  go_loopw [11] (fun i wr => ∃ k : Nat, k ≤ 8 ∧ i = .int .i64 k ∧ Below w.heap.size w wr ∧ Blk wr w.heap.size 75 (timesCells 1 s t 0) ∧ Blk wr (w.heap.size + 1) 75 (timesCells 1 s t k))
    (fun i _ => 8 - (intOf i).toNat)
  case atStart => exact ⟨0, by omega, rfl, by (repeat' (first | (with_reducible exact Below.refl _ _) | (with_reducible assumption) | (with_reducible refine Below.next ?_ (by with_reducible assumption)) | (with_reducible refine Below.drew ?_) | (with_reducible refine Below.laid ?_ _) | (with_reducible refine Below.setCell ?_ ?_ _) | (with_reducible refine size_of ?_) | (with_reducible refine Nat.le_succ_of_le ?_) | go_size)), (Blk.newAt (by simp) _ _).alloc _, Blk.newAt (by simp) _ _⟩
  case round =>
    obtain ⟨k, hk, rfl, hb, hR, hO⟩ := hrel
    obtain ⟨wo, rfl⟩ : ∃ wo : World, wo = wr := ⟨_, rfl⟩
    by_cases hlt : (k : Int) < 8
    · have hc := hO.cell k
      have hfz := hO.frozen k
      have HS := Lib.hid (timesCells_set 1 s t k (by omega))
      obtain ⟨old, hold⟩ : ∃ old, (timesCells 1 s t k)[k]? = some old := ⟨_, Array.getElem?_eq_getElem (by simp [timesCells]; omega)⟩
      rw [hold] at hc
      have hk0 : (0 : Int) ≤ (k : Int) := by omega
      have HA := Lib.hid (and_one s k hs)
      have HB := Lib.hid (and_one t k ht)
      have HV := Lib.hid (show Venn.timesAt 1 s t k = Venn.timesV 1 (Venn.bitI s k) (Venn.bitI t k) from rfl)
      have ha := Venn.bitI_01 s k
      have hb' := Venn.bitI_01 t k
      have HX := Lib.hid (And.intro ha hb')
      have ha1 : 0 ≤ Venn.bitI s k ∧ Venn.bitI s k ≤ 1 := by omega
      have hb1 : 0 ≤ Venn.bitI t k ∧ Venn.bitI t k ≤ 1 := by omega
      clear ha hb'
      go_wp2_with fail
      go_quiet (fail)
      rw [HA.out, HB.out]
      go_wp2
      go_roundw
      case rel =>
        refine ⟨k + 1, by omega, by go_num, (below_drewN hb _).setCell (p := ⟨w.heap.size + 1, k, none⟩) (by simp) _, (hR.drewN _).far (p := ⟨w.heap.size + 1, k, none⟩) (by simp) _, ?_⟩
        have := (hO.drewN 1).set_ k (.int .i64 (Venn.timesAt 1 s t k))
        rw [HS.out, HV.out] at this
        rw [← (bits01' HX.out.1 HX.out.2).1] at this; exact this
      case measure => simp [intOf]; omega
    · obtain rfl : k = 8 := by omega
      rw [timesCells_8] at hO
      rw [timesCells_0] at hR
      obtain ⟨⟨c0, c1, c2, c3, c4, c5, c6, c7⟩, _⟩ := hO.cells8
      obtain ⟨⟨d0, d1, d2, d3, d4, d5, d6, d7⟩, f0, f1, f2, f3, f4, f5, f6, f7⟩ := hR.cells8
      clear hO hR
      go_wp2
      refine bodyPost_ret (v := .agg #[.int .i64 (Venn.timesAt 1 s t 0), .int .i64 (Venn.timesAt 1 s t 1), .int .i64 (Venn.timesAt 1 s t 2), .int .i64 (Venn.timesAt 1 s t 3), .int .i64 (Venn.timesAt 1 s t 4), .int .i64 (Venn.timesAt 1 s t 5), .int .i64 (Venn.timesAt 1 s t 6), .int .i64 (Venn.timesAt 1 s t 7)]) (by simp [results, Tryz.results92, go_sem, d0, d1, d2, d3, d4, d5, d6, d7]) rfl ⟨rfl, ?_⟩
      exact below_set8 hb (Nat.le_refl _) _ _ _ _ _ _ _ _

set_option maxHeartbeats 4000000 in
set_option maxRecDepth 100000 in
theorem rows_times2 (s t : Int) (w : World) (hs : 0 ≤ s ∧ s ≤ 255) (ht : 0 ≤ t ∧ t ≤ 255) :
    Calls Tryz.prog 92 #[.int .i64 2, .int .i64 s, .int .i64 t] w (Keeps (.agg (timesCells 2 s t 8)) w) := by
  rw [timesCells_8]
  go_enter Tryz.func92, Tryz.ntmps92
  go_wp2
  go_loopw [11] (fun i wr => ∃ k : Nat, k ≤ 8 ∧ i = .int .i64 k ∧ Below w.heap.size w wr ∧ Blk wr w.heap.size 75 (timesCells 2 s t 0) ∧ Blk wr (w.heap.size + 1) 75 (timesCells 2 s t k))
    (fun i _ => 8 - (intOf i).toNat)
  case atStart => exact ⟨0, by omega, rfl, by (repeat' (first | (with_reducible exact Below.refl _ _) | (with_reducible assumption) | (with_reducible refine Below.next ?_ (by with_reducible assumption)) | (with_reducible refine Below.drew ?_) | (with_reducible refine Below.laid ?_ _) | (with_reducible refine Below.setCell ?_ ?_ _) | (with_reducible refine size_of ?_) | (with_reducible refine Nat.le_succ_of_le ?_) | go_size)), (Blk.newAt (by simp) _ _).alloc _, Blk.newAt (by simp) _ _⟩
  case round =>
    obtain ⟨k, hk, rfl, hb, hR, hO⟩ := hrel
    obtain ⟨wo, rfl⟩ : ∃ wo : World, wo = wr := ⟨_, rfl⟩
    by_cases hlt : (k : Int) < 8
    · have hc := hO.cell k
      have hfz := hO.frozen k
      have HS := Lib.hid (timesCells_set 2 s t k (by omega))
      obtain ⟨old, hold⟩ : ∃ old, (timesCells 2 s t k)[k]? = some old := ⟨_, Array.getElem?_eq_getElem (by simp [timesCells]; omega)⟩
      rw [hold] at hc
      have hk0 : (0 : Int) ≤ (k : Int) := by omega
      have HA := Lib.hid (and_one s k hs)
      have HB := Lib.hid (and_one t k ht)
      have HV := Lib.hid (show Venn.timesAt 2 s t k = Venn.timesV 2 (Venn.bitI s k) (Venn.bitI t k) from rfl)
      have ha := Venn.bitI_01 s k
      have hb' := Venn.bitI_01 t k
      have HX := Lib.hid (And.intro ha hb')
      have ha1 : 0 ≤ Venn.bitI s k ∧ Venn.bitI s k ≤ 1 := by omega
      have hb1 : 0 ≤ Venn.bitI t k ∧ Venn.bitI t k ≤ 1 := by omega
      clear ha hb'
      go_wp2_with fail
      go_quiet (fail)
      rw [HA.out, HB.out]
      go_wp2
      go_roundw
      case rel =>
        refine ⟨k + 1, by omega, by go_num, (below_drewN hb _).setCell (p := ⟨w.heap.size + 1, k, none⟩) (by simp) _, (hR.drewN _).far (p := ⟨w.heap.size + 1, k, none⟩) (by simp) _, ?_⟩
        have := (hO.drewN 1).set_ k (.int .i64 (Venn.timesAt 2 s t k))
        rw [HS.out, HV.out] at this
        rw [← (bits01' HX.out.1 HX.out.2).2] at this; exact this
      case measure => simp [intOf]; omega
    · obtain rfl : k = 8 := by omega
      rw [timesCells_8] at hO
      rw [timesCells_0] at hR
      obtain ⟨⟨c0, c1, c2, c3, c4, c5, c6, c7⟩, _⟩ := hO.cells8
      obtain ⟨⟨d0, d1, d2, d3, d4, d5, d6, d7⟩, f0, f1, f2, f3, f4, f5, f6, f7⟩ := hR.cells8
      clear hO hR
      go_wp2
      refine bodyPost_ret (v := .agg #[.int .i64 (Venn.timesAt 2 s t 0), .int .i64 (Venn.timesAt 2 s t 1), .int .i64 (Venn.timesAt 2 s t 2), .int .i64 (Venn.timesAt 2 s t 3), .int .i64 (Venn.timesAt 2 s t 4), .int .i64 (Venn.timesAt 2 s t 5), .int .i64 (Venn.timesAt 2 s t 6), .int .i64 (Venn.timesAt 2 s t 7)]) (by simp [results, Tryz.results92, go_sem, d0, d1, d2, d3, d4, d5, d6, d7]) rfl ⟨rfl, ?_⟩
      exact below_set8 hb (Nat.le_refl _) _ _ _ _ _ _ _ _

set_option maxHeartbeats 4000000 in
set_option maxRecDepth 100000 in
theorem rows_times3 (s t : Int) (w : World) (hs : 0 ≤ s ∧ s ≤ 255) (ht : 0 ≤ t ∧ t ≤ 255) :
    Calls Tryz.prog 92 #[.int .i64 3, .int .i64 s, .int .i64 t] w (Keeps (.agg (timesCells 3 s t 8)) w) := by
  rw [timesCells_8]
  go_enter Tryz.func92, Tryz.ntmps92
  go_wp2
  go_loopw [11] (fun i wr => ∃ k : Nat, k ≤ 8 ∧ i = .int .i64 k ∧ Below w.heap.size w wr ∧ Blk wr w.heap.size 75 (timesCells 3 s t 0) ∧ Blk wr (w.heap.size + 1) 75 (timesCells 3 s t k))
    (fun i _ => 8 - (intOf i).toNat)
  case atStart => exact ⟨0, by omega, rfl, by (repeat' (first | (with_reducible exact Below.refl _ _) | (with_reducible assumption) | (with_reducible refine Below.next ?_ (by with_reducible assumption)) | (with_reducible refine Below.drew ?_) | (with_reducible refine Below.laid ?_ _) | (with_reducible refine Below.setCell ?_ ?_ _) | (with_reducible refine size_of ?_) | (with_reducible refine Nat.le_succ_of_le ?_) | go_size)), (Blk.newAt (by simp) _ _).alloc _, Blk.newAt (by simp) _ _⟩
  case round =>
    obtain ⟨k, hk, rfl, hb, hR, hO⟩ := hrel
    obtain ⟨wo, rfl⟩ : ∃ wo : World, wo = wr := ⟨_, rfl⟩
    by_cases hlt : (k : Int) < 8
    · have hc := hO.cell k
      have hfz := hO.frozen k
      have HS := Lib.hid (timesCells_set 3 s t k (by omega))
      obtain ⟨old, hold⟩ : ∃ old, (timesCells 3 s t k)[k]? = some old := ⟨_, Array.getElem?_eq_getElem (by simp [timesCells]; omega)⟩
      rw [hold] at hc
      have hk0 : (0 : Int) ≤ (k : Int) := by omega
      have HA := Lib.hid (and_one s k hs)
      have HB := Lib.hid (and_one t k ht)
      have HV := Lib.hid (show Venn.timesAt 3 s t k = Venn.timesV 3 (Venn.bitI s k) (Venn.bitI t k) from rfl)
      have ha := Venn.bitI_01 s k
      have hb' := Venn.bitI_01 t k
      have HX := Lib.hid (And.intro ha hb')
      have ha1 : 0 ≤ Venn.bitI s k ∧ Venn.bitI s k ≤ 1 := by omega
      have hb1 : 0 ≤ Venn.bitI t k ∧ Venn.bitI t k ≤ 1 := by omega
      clear ha hb'
      go_wp2_with fail
      go_quiet (fail)
      rw [HA.out, HB.out]
      go_wp2
      go_roundw
      case rel =>
        refine ⟨k + 1, by omega, by go_num, (below_drewN hb _).setCell (p := ⟨w.heap.size + 1, k, none⟩) (by simp) _, (hR.drewN _).far (p := ⟨w.heap.size + 1, k, none⟩) (by simp) _, ?_⟩
        have := (hO.drewN 1).set_ k (.int .i64 (Venn.timesAt 3 s t k))
        rw [HS.out, HV.out] at this
        exact this
      case measure => simp [intOf]; omega
    · obtain rfl : k = 8 := by omega
      rw [timesCells_8] at hO
      rw [timesCells_0] at hR
      obtain ⟨⟨c0, c1, c2, c3, c4, c5, c6, c7⟩, _⟩ := hO.cells8
      obtain ⟨⟨d0, d1, d2, d3, d4, d5, d6, d7⟩, f0, f1, f2, f3, f4, f5, f6, f7⟩ := hR.cells8
      clear hO hR
      go_wp2
      refine bodyPost_ret (v := .agg #[.int .i64 (Venn.timesAt 3 s t 0), .int .i64 (Venn.timesAt 3 s t 1), .int .i64 (Venn.timesAt 3 s t 2), .int .i64 (Venn.timesAt 3 s t 3), .int .i64 (Venn.timesAt 3 s t 4), .int .i64 (Venn.timesAt 3 s t 5), .int .i64 (Venn.timesAt 3 s t 6), .int .i64 (Venn.timesAt 3 s t 7)]) (by simp [results, Tryz.results92, go_sem, d0, d1, d2, d3, d4, d5, d6, d7]) rfl ⟨rfl, ?_⟩
      exact below_set8 hb (Nat.le_refl _) _ _ _ _ _ _ _ _

set_option maxHeartbeats 4000000 in
set_option maxRecDepth 100000 in
theorem rows_times4 (s t : Int) (w : World) (hs : 0 ≤ s ∧ s ≤ 255) (ht : 0 ≤ t ∧ t ≤ 255) :
    Calls Tryz.prog 92 #[.int .i64 4, .int .i64 s, .int .i64 t] w (Keeps (.agg (timesCells 4 s t 8)) w) := by
  rw [timesCells_8]
  go_enter Tryz.func92, Tryz.ntmps92
  go_wp2
  go_loopw [11] (fun i wr => ∃ k : Nat, k ≤ 8 ∧ i = .int .i64 k ∧ Below w.heap.size w wr ∧ Blk wr w.heap.size 75 (timesCells 4 s t 0) ∧ Blk wr (w.heap.size + 1) 75 (timesCells 4 s t k))
    (fun i _ => 8 - (intOf i).toNat)
  case atStart => exact ⟨0, by omega, rfl, by (repeat' (first | (with_reducible exact Below.refl _ _) | (with_reducible assumption) | (with_reducible refine Below.next ?_ (by with_reducible assumption)) | (with_reducible refine Below.drew ?_) | (with_reducible refine Below.laid ?_ _) | (with_reducible refine Below.setCell ?_ ?_ _) | (with_reducible refine size_of ?_) | (with_reducible refine Nat.le_succ_of_le ?_) | go_size)), (Blk.newAt (by simp) _ _).alloc _, Blk.newAt (by simp) _ _⟩
  case round =>
    obtain ⟨k, hk, rfl, hb, hR, hO⟩ := hrel
    obtain ⟨wo, rfl⟩ : ∃ wo : World, wo = wr := ⟨_, rfl⟩
    by_cases hlt : (k : Int) < 8
    · have hc := hO.cell k
      have hfz := hO.frozen k
      have HS := Lib.hid (timesCells_set 4 s t k (by omega))
      obtain ⟨old, hold⟩ : ∃ old, (timesCells 4 s t k)[k]? = some old := ⟨_, Array.getElem?_eq_getElem (by simp [timesCells]; omega)⟩
      rw [hold] at hc
      have hk0 : (0 : Int) ≤ (k : Int) := by omega
      have HA := Lib.hid (and_one s k hs)
      have HB := Lib.hid (and_one t k ht)
      have HV := Lib.hid (show Venn.timesAt 4 s t k = Venn.timesV 4 (Venn.bitI s k) (Venn.bitI t k) from rfl)
      have ha := Venn.bitI_01 s k
      have hb' := Venn.bitI_01 t k
      have HX := Lib.hid (And.intro ha hb')
      have ha1 : 0 ≤ Venn.bitI s k ∧ Venn.bitI s k ≤ 1 := by omega
      have hb1 : 0 ≤ Venn.bitI t k ∧ Venn.bitI t k ≤ 1 := by omega
      clear ha hb'
      go_wp2_with fail
      go_quiet (fail)
      rw [HA.out, HB.out]
      go_wp2
      go_roundw
      case rel =>
        refine ⟨k + 1, by omega, by go_num, (below_drewN hb _).setCell (p := ⟨w.heap.size + 1, k, none⟩) (by simp) _, (hR.drewN _).far (p := ⟨w.heap.size + 1, k, none⟩) (by simp) _, ?_⟩
        have := (hO.drewN 1).set_ k (.int .i64 (Venn.timesAt 4 s t k))
        rw [HS.out, HV.out] at this
        exact this
      case measure => simp [intOf]; omega
    · obtain rfl : k = 8 := by omega
      rw [timesCells_8] at hO
      rw [timesCells_0] at hR
      obtain ⟨⟨c0, c1, c2, c3, c4, c5, c6, c7⟩, _⟩ := hO.cells8
      obtain ⟨⟨d0, d1, d2, d3, d4, d5, d6, d7⟩, f0, f1, f2, f3, f4, f5, f6, f7⟩ := hR.cells8
      clear hO hR
      go_wp2
      refine bodyPost_ret (v := .agg #[.int .i64 (Venn.timesAt 4 s t 0), .int .i64 (Venn.timesAt 4 s t 1), .int .i64 (Venn.timesAt 4 s t 2), .int .i64 (Venn.timesAt 4 s t 3), .int .i64 (Venn.timesAt 4 s t 4), .int .i64 (Venn.timesAt 4 s t 5), .int .i64 (Venn.timesAt 4 s t 6), .int .i64 (Venn.timesAt 4 s t 7)]) (by simp [results, Tryz.results92, go_sem, d0, d1, d2, d3, d4, d5, d6, d7]) rfl ⟨rfl, ?_⟩
      exact below_set8 hb (Nat.le_refl _) _ _ _ _ _ _ _ _

set_option maxHeartbeats 4000000 in
set_option maxRecDepth 100000 in
theorem rows_times5 (s t : Int) (w : World) (hs : 0 ≤ s ∧ s ≤ 255) (ht : 0 ≤ t ∧ t ≤ 255) :
    Calls Tryz.prog 92 #[.int .i64 5, .int .i64 s, .int .i64 t] w (Keeps (.agg (timesCells 5 s t 8)) w) := by
  rw [timesCells_8]
  go_enter Tryz.func92, Tryz.ntmps92
  go_wp2
  go_loopw [11] (fun i wr => ∃ k : Nat, k ≤ 8 ∧ i = .int .i64 k ∧ Below w.heap.size w wr ∧ Blk wr w.heap.size 75 (timesCells 5 s t 0) ∧ Blk wr (w.heap.size + 1) 75 (timesCells 5 s t k))
    (fun i _ => 8 - (intOf i).toNat)
  case atStart => exact ⟨0, by omega, rfl, by (repeat' (first | (with_reducible exact Below.refl _ _) | (with_reducible assumption) | (with_reducible refine Below.next ?_ (by with_reducible assumption)) | (with_reducible refine Below.drew ?_) | (with_reducible refine Below.laid ?_ _) | (with_reducible refine Below.setCell ?_ ?_ _) | (with_reducible refine size_of ?_) | (with_reducible refine Nat.le_succ_of_le ?_) | go_size)), (Blk.newAt (by simp) _ _).alloc _, Blk.newAt (by simp) _ _⟩
  case round =>
    obtain ⟨k, hk, rfl, hb, hR, hO⟩ := hrel
    obtain ⟨wo, rfl⟩ : ∃ wo : World, wo = wr := ⟨_, rfl⟩
    by_cases hlt : (k : Int) < 8
    · have hc := hO.cell k
      have hfz := hO.frozen k
      have HS := Lib.hid (timesCells_set 5 s t k (by omega))
      obtain ⟨old, hold⟩ : ∃ old, (timesCells 5 s t k)[k]? = some old := ⟨_, Array.getElem?_eq_getElem (by simp [timesCells]; omega)⟩
      rw [hold] at hc
      have hk0 : (0 : Int) ≤ (k : Int) := by omega
      have HA := Lib.hid (and_one s k hs)
      have HB := Lib.hid (and_one t k ht)
      have HV := Lib.hid (show Venn.timesAt 5 s t k = Venn.timesV 5 (Venn.bitI s k) (Venn.bitI t k) from rfl)
      have ha := Venn.bitI_01 s k
      have hb' := Venn.bitI_01 t k
      have HX := Lib.hid (And.intro ha hb')
      have ha1 : 0 ≤ Venn.bitI s k ∧ Venn.bitI s k ≤ 1 := by omega
      have hb1 : 0 ≤ Venn.bitI t k ∧ Venn.bitI t k ≤ 1 := by omega
      clear ha hb'
      go_wp2_with fail
      go_quiet (fail)
      rw [HA.out, HB.out]
      go_wp2
      go_roundw
      case rel =>
        refine ⟨k + 1, by omega, by go_num, (below_drewN hb _).setCell (p := ⟨w.heap.size + 1, k, none⟩) (by simp) _, (hR.drewN _).far (p := ⟨w.heap.size + 1, k, none⟩) (by simp) _, ?_⟩
        have := (hO.drewN 1).set_ k (.int .i64 (Venn.timesAt 5 s t k))
        rw [HS.out, HV.out] at this
        exact this
      case measure => simp [intOf]; omega
    · obtain rfl : k = 8 := by omega
      rw [timesCells_8] at hO
      rw [timesCells_0] at hR
      obtain ⟨⟨c0, c1, c2, c3, c4, c5, c6, c7⟩, _⟩ := hO.cells8
      obtain ⟨⟨d0, d1, d2, d3, d4, d5, d6, d7⟩, f0, f1, f2, f3, f4, f5, f6, f7⟩ := hR.cells8
      clear hO hR
      go_wp2
      refine bodyPost_ret (v := .agg #[.int .i64 (Venn.timesAt 5 s t 0), .int .i64 (Venn.timesAt 5 s t 1), .int .i64 (Venn.timesAt 5 s t 2), .int .i64 (Venn.timesAt 5 s t 3), .int .i64 (Venn.timesAt 5 s t 4), .int .i64 (Venn.timesAt 5 s t 5), .int .i64 (Venn.timesAt 5 s t 6), .int .i64 (Venn.timesAt 5 s t 7)]) (by simp [results, Tryz.results92, go_sem, d0, d1, d2, d3, d4, d5, d6, d7]) rfl ⟨rfl, ?_⟩
      exact below_set8 hb (Nat.le_refl _) _ _ _ _ _ _ _ _

theorem rows_times (what s t : Int) (w : World) (hw : 1 ≤ what ∧ what ≤ 5) (hs : 0 ≤ s ∧ s ≤ 255) (ht : 0 ≤ t ∧ t ≤ 255) :
    Calls Tryz.prog 92 #[.int .i64 what, .int .i64 s, .int .i64 t] w (Keeps (.agg (timesCells what s t 8)) w) := by
  rcases (by omega : what = 1 ∨ what = 2 ∨ what = 3 ∨ what = 4 ∨ what = 5) with rfl | rfl | rfl | rfl | rfl
  · exact rows_times1 s t w hs ht
  · exact rows_times2 s t w hs ht
  · exact rows_times3 s t w hs ht
  · exact rows_times4 s t w hs ht
  · exact rows_times5 s t w hs ht
/-- The same, cell by cell. -/
theorem rows_times_cells (what s t : Int) (w : World) (hw : 1 ≤ what ∧ what ≤ 5) (hs : 0 ≤ s ∧ s ≤ 255) (ht : 0 ≤ t ∧ t ≤ 255) :
    Calls Tryz.prog 92 #[.int .i64 what, .int .i64 s, .int .i64 t] w (Keeps (.agg #[.int .i64 (Venn.timesAt what s t 0), .int .i64 (Venn.timesAt what s t 1), .int .i64 (Venn.timesAt what s t 2), .int .i64 (Venn.timesAt what s t 3), .int .i64 (Venn.timesAt what s t 4), .int .i64 (Venn.timesAt what s t 5), .int .i64 (Venn.timesAt what s t 6), .int .i64 (Venn.timesAt what s t 7)]) w) := by
  have := rows_times what s t w hw hs ht
  rwa [timesCells_8] at this
end Go.Proofs.YtjnjgcibhjdmdaaGreatDoor

namespace Go.Proofs.YtjnjgcibhjdmdaaGreatDoor
open Go.RowKit

theorem things_parts {u : Int} (h : Venn.things u = true) : 0 ≤ u ∧ u ≤ 6 := by simpa [Venn.things] using h
theorem things_of {u : Int} (h0 : 0 ≤ u) (h1 : u ≤ 6) : Venn.things u = true := by simp [Venn.things, h0, h1]

/-- What fit.after gives: counts, and whether there were any. -/
def afterV (n : List Int) : Value := match Venn.afterC n with
  | some m => .tuple #[.agg (m.map (Value.int .i64)).toArray, .bool true]
  | none => .tuple #[.agg (n.map (Value.int .i64)).toArray, .bool false]
set_option maxHeartbeats 2000000 in
set_option maxRecDepth 100000 in
theorem fit_after (n0 n1 n2 n3 n4 n5 n6 n7 : Int) (w : World) (hp : (0 ≤ n0 ∧ n0 ≤ 6) ∧ (0 ≤ n1 ∧ n1 ≤ 6) ∧ (0 ≤ n2 ∧ n2 ≤ 6) ∧ (0 ≤ n3 ∧ n3 ≤ 6) ∧ (0 ≤ n4 ∧ n4 ≤ 6) ∧ (0 ≤ n5 ∧ n5 ≤ 6) ∧ (0 ≤ n6 ∧ n6 ≤ 6) ∧ (0 ≤ n7 ∧ n7 ≤ 6)) :
    Calls Tryz.prog 80 #[.agg #[.int .i64 n0, .int .i64 n1, .int .i64 n2, .int .i64 n3, .int .i64 n4, .int .i64 n5, .int .i64 n6, .int .i64 n7]] w (Keeps (afterV [n0, n1, n2, n3, n4, n5, n6, n7]) w) := by
  obtain ⟨b0, b1, b2, b3, b4, b5, b6, b7⟩ := hp
  obtain ⟨E, hE⟩ : ∃ E, E = afterV [n0, n1, n2, n3, n4, n5, n6, n7] := ⟨_, rfl⟩
  rw [← hE]
  have HE := Lib.hid hE
  clear hE
  go_enter Tryz.func80, Tryz.ntmps80
  go_wp2
  refine wp_loop_rounds 8 ?_
  rw [rounds_succ]
  by_cases h7 : ¬ n7 = 0
  · have HF := Lib.hid (show E = .tuple #[.agg #[.int .i64 n0, .int .i64 n1, .int .i64 n2, .int .i64 n3, .int .i64 n4, .int .i64 n5, .int .i64 (n6 + 1), .int .i64 (n7 - 1)], .bool true] by
      rw [HE.out, afterV]
      simp [Venn.afterC, h7])
    have hb : (n7 == 0) = false := by simpa using h7
    have hw1 : IntKind.i64.wrap (n7 - 1) = n7 - 1 := IntWalk.i64_in _ (by omega)
    have hw2 : IntKind.i64.wrap (n6 + 1) = n6 + 1 := IntWalk.i64_in _ (by omega)
    clear h7
    go_wp2
    refine bodyPost_ret (v := .tuple #[.agg #[.int .i64 n0, .int .i64 n1, .int .i64 n2, .int .i64 n3, .int .i64 n4, .int .i64 n5, .int .i64 (n6 + 1), .int .i64 (n7 - 1)], .bool true]) (by simp [results, Tryz.results80, go_sem]) rfl ⟨congrArg Ending.returned HF.out.symm, by (repeat' (first | (with_reducible exact Below.refl _ _) | (with_reducible assumption) | (with_reducible refine Below.next ?_ (by with_reducible assumption)) | (with_reducible refine Below.drew ?_) | (with_reducible refine Below.laid ?_ _) | (with_reducible refine Below.setCell ?_ ?_ _) | (with_reducible refine size_of ?_) | (with_reducible refine Nat.le_succ_of_le ?_) | go_size))⟩
  replace h7 := Decidable.not_not.1 h7
  have hb7 : (n7 == 0) = true := by simpa using h7
  have z7 := Lib.hid h7
  clear h7
  go_wp2
  rw [rounds_succ]
  by_cases h6 : ¬ n6 = 0
  · have HF := Lib.hid (show E = .tuple #[.agg #[.int .i64 n0, .int .i64 n1, .int .i64 n2, .int .i64 n3, .int .i64 n4, .int .i64 (n5 + 1), .int .i64 0, .int .i64 (n6 - 1)], .bool true] by
      rw [HE.out, afterV]
      simp [Venn.afterC, z7.out, h6])
    have hb : (n6 == 0) = false := by simpa using h6
    have hw1 : IntKind.i64.wrap (n6 - 1) = n6 - 1 := IntWalk.i64_in _ (by omega)
    have hw2 : IntKind.i64.wrap (n5 + 1) = n5 + 1 := IntWalk.i64_in _ (by omega)
    clear h6
    go_wp2
    refine bodyPost_ret (v := .tuple #[.agg #[.int .i64 n0, .int .i64 n1, .int .i64 n2, .int .i64 n3, .int .i64 n4, .int .i64 (n5 + 1), .int .i64 0, .int .i64 (n6 - 1)], .bool true]) (by simp [results, Tryz.results80, go_sem, z7.out]) rfl ⟨congrArg Ending.returned HF.out.symm, by (repeat' (first | (with_reducible exact Below.refl _ _) | (with_reducible assumption) | (with_reducible refine Below.next ?_ (by with_reducible assumption)) | (with_reducible refine Below.drew ?_) | (with_reducible refine Below.laid ?_ _) | (with_reducible refine Below.setCell ?_ ?_ _) | (with_reducible refine size_of ?_) | (with_reducible refine Nat.le_succ_of_le ?_) | go_size))⟩
  replace h6 := Decidable.not_not.1 h6
  have hb6 : (n6 == 0) = true := by simpa using h6
  have z6 := Lib.hid h6
  clear h6
  go_wp2
  rw [rounds_succ]
  by_cases h5 : ¬ n5 = 0
  · have HF := Lib.hid (show E = .tuple #[.agg #[.int .i64 n0, .int .i64 n1, .int .i64 n2, .int .i64 n3, .int .i64 (n4 + 1), .int .i64 0, .int .i64 n6, .int .i64 (n5 - 1)], .bool true] by
      rw [HE.out, afterV]
      simp [Venn.afterC, z7.out, z6.out, h5])
    have hb : (n5 == 0) = false := by simpa using h5
    have hw1 : IntKind.i64.wrap (n5 - 1) = n5 - 1 := IntWalk.i64_in _ (by omega)
    have hw2 : IntKind.i64.wrap (n4 + 1) = n4 + 1 := IntWalk.i64_in _ (by omega)
    clear h5
    go_wp2
    refine bodyPost_ret (v := .tuple #[.agg #[.int .i64 n0, .int .i64 n1, .int .i64 n2, .int .i64 n3, .int .i64 (n4 + 1), .int .i64 0, .int .i64 n6, .int .i64 (n5 - 1)], .bool true]) (by simp [results, Tryz.results80, go_sem, z7.out, z6.out]) rfl ⟨congrArg Ending.returned HF.out.symm, by (repeat' (first | (with_reducible exact Below.refl _ _) | (with_reducible assumption) | (with_reducible refine Below.next ?_ (by with_reducible assumption)) | (with_reducible refine Below.drew ?_) | (with_reducible refine Below.laid ?_ _) | (with_reducible refine Below.setCell ?_ ?_ _) | (with_reducible refine size_of ?_) | (with_reducible refine Nat.le_succ_of_le ?_) | go_size))⟩
  replace h5 := Decidable.not_not.1 h5
  have hb5 : (n5 == 0) = true := by simpa using h5
  have z5 := Lib.hid h5
  clear h5
  go_wp2
  rw [rounds_succ]
  by_cases h4 : ¬ n4 = 0
  · have HF := Lib.hid (show E = .tuple #[.agg #[.int .i64 n0, .int .i64 n1, .int .i64 n2, .int .i64 (n3 + 1), .int .i64 0, .int .i64 n5, .int .i64 n6, .int .i64 (n4 - 1)], .bool true] by
      rw [HE.out, afterV]
      simp [Venn.afterC, z7.out, z6.out, z5.out, h4])
    have hb : (n4 == 0) = false := by simpa using h4
    have hw1 : IntKind.i64.wrap (n4 - 1) = n4 - 1 := IntWalk.i64_in _ (by omega)
    have hw2 : IntKind.i64.wrap (n3 + 1) = n3 + 1 := IntWalk.i64_in _ (by omega)
    clear h4
    go_wp2
    refine bodyPost_ret (v := .tuple #[.agg #[.int .i64 n0, .int .i64 n1, .int .i64 n2, .int .i64 (n3 + 1), .int .i64 0, .int .i64 n5, .int .i64 n6, .int .i64 (n4 - 1)], .bool true]) (by simp [results, Tryz.results80, go_sem, z7.out, z6.out, z5.out]) rfl ⟨congrArg Ending.returned HF.out.symm, by (repeat' (first | (with_reducible exact Below.refl _ _) | (with_reducible assumption) | (with_reducible refine Below.next ?_ (by with_reducible assumption)) | (with_reducible refine Below.drew ?_) | (with_reducible refine Below.laid ?_ _) | (with_reducible refine Below.setCell ?_ ?_ _) | (with_reducible refine size_of ?_) | (with_reducible refine Nat.le_succ_of_le ?_) | go_size))⟩
  replace h4 := Decidable.not_not.1 h4
  have hb4 : (n4 == 0) = true := by simpa using h4
  have z4 := Lib.hid h4
  clear h4
  go_wp2
  rw [rounds_succ]
  by_cases h3 : ¬ n3 = 0
  · have HF := Lib.hid (show E = .tuple #[.agg #[.int .i64 n0, .int .i64 n1, .int .i64 (n2 + 1), .int .i64 0, .int .i64 n4, .int .i64 n5, .int .i64 n6, .int .i64 (n3 - 1)], .bool true] by
      rw [HE.out, afterV]
      simp [Venn.afterC, z7.out, z6.out, z5.out, z4.out, h3])
    have hb : (n3 == 0) = false := by simpa using h3
    have hw1 : IntKind.i64.wrap (n3 - 1) = n3 - 1 := IntWalk.i64_in _ (by omega)
    have hw2 : IntKind.i64.wrap (n2 + 1) = n2 + 1 := IntWalk.i64_in _ (by omega)
    clear h3
    go_wp2
    refine bodyPost_ret (v := .tuple #[.agg #[.int .i64 n0, .int .i64 n1, .int .i64 (n2 + 1), .int .i64 0, .int .i64 n4, .int .i64 n5, .int .i64 n6, .int .i64 (n3 - 1)], .bool true]) (by simp [results, Tryz.results80, go_sem, z7.out, z6.out, z5.out, z4.out]) rfl ⟨congrArg Ending.returned HF.out.symm, by (repeat' (first | (with_reducible exact Below.refl _ _) | (with_reducible assumption) | (with_reducible refine Below.next ?_ (by with_reducible assumption)) | (with_reducible refine Below.drew ?_) | (with_reducible refine Below.laid ?_ _) | (with_reducible refine Below.setCell ?_ ?_ _) | (with_reducible refine size_of ?_) | (with_reducible refine Nat.le_succ_of_le ?_) | go_size))⟩
  replace h3 := Decidable.not_not.1 h3
  have hb3 : (n3 == 0) = true := by simpa using h3
  have z3 := Lib.hid h3
  clear h3
  go_wp2
  rw [rounds_succ]
  by_cases h2 : ¬ n2 = 0
  · have HF := Lib.hid (show E = .tuple #[.agg #[.int .i64 n0, .int .i64 (n1 + 1), .int .i64 0, .int .i64 n3, .int .i64 n4, .int .i64 n5, .int .i64 n6, .int .i64 (n2 - 1)], .bool true] by
      rw [HE.out, afterV]
      simp [Venn.afterC, z7.out, z6.out, z5.out, z4.out, z3.out, h2])
    have hb : (n2 == 0) = false := by simpa using h2
    have hw1 : IntKind.i64.wrap (n2 - 1) = n2 - 1 := IntWalk.i64_in _ (by omega)
    have hw2 : IntKind.i64.wrap (n1 + 1) = n1 + 1 := IntWalk.i64_in _ (by omega)
    clear h2
    go_wp2
    refine bodyPost_ret (v := .tuple #[.agg #[.int .i64 n0, .int .i64 (n1 + 1), .int .i64 0, .int .i64 n3, .int .i64 n4, .int .i64 n5, .int .i64 n6, .int .i64 (n2 - 1)], .bool true]) (by simp [results, Tryz.results80, go_sem, z7.out, z6.out, z5.out, z4.out, z3.out]) rfl ⟨congrArg Ending.returned HF.out.symm, by (repeat' (first | (with_reducible exact Below.refl _ _) | (with_reducible assumption) | (with_reducible refine Below.next ?_ (by with_reducible assumption)) | (with_reducible refine Below.drew ?_) | (with_reducible refine Below.laid ?_ _) | (with_reducible refine Below.setCell ?_ ?_ _) | (with_reducible refine size_of ?_) | (with_reducible refine Nat.le_succ_of_le ?_) | go_size))⟩
  replace h2 := Decidable.not_not.1 h2
  have hb2 : (n2 == 0) = true := by simpa using h2
  have z2 := Lib.hid h2
  clear h2
  go_wp2
  rw [rounds_succ]
  by_cases h1 : ¬ n1 = 0
  · have HF := Lib.hid (show E = .tuple #[.agg #[.int .i64 (n0 + 1), .int .i64 0, .int .i64 n2, .int .i64 n3, .int .i64 n4, .int .i64 n5, .int .i64 n6, .int .i64 (n1 - 1)], .bool true] by
      rw [HE.out, afterV]
      simp [Venn.afterC, z7.out, z6.out, z5.out, z4.out, z3.out, z2.out, h1])
    have hb : (n1 == 0) = false := by simpa using h1
    have hw1 : IntKind.i64.wrap (n1 - 1) = n1 - 1 := IntWalk.i64_in _ (by omega)
    have hw2 : IntKind.i64.wrap (n0 + 1) = n0 + 1 := IntWalk.i64_in _ (by omega)
    clear h1
    go_wp2
    refine bodyPost_ret (v := .tuple #[.agg #[.int .i64 (n0 + 1), .int .i64 0, .int .i64 n2, .int .i64 n3, .int .i64 n4, .int .i64 n5, .int .i64 n6, .int .i64 (n1 - 1)], .bool true]) (by simp [results, Tryz.results80, go_sem, z7.out, z6.out, z5.out, z4.out, z3.out, z2.out]) rfl ⟨congrArg Ending.returned HF.out.symm, by (repeat' (first | (with_reducible exact Below.refl _ _) | (with_reducible assumption) | (with_reducible refine Below.next ?_ (by with_reducible assumption)) | (with_reducible refine Below.drew ?_) | (with_reducible refine Below.laid ?_ _) | (with_reducible refine Below.setCell ?_ ?_ _) | (with_reducible refine size_of ?_) | (with_reducible refine Nat.le_succ_of_le ?_) | go_size))⟩
  replace h1 := Decidable.not_not.1 h1
  have hb1 : (n1 == 0) = true := by simpa using h1
  have z1 := Lib.hid h1
  clear h1
  go_wp2
  rw [rounds_succ]
  have HF := Lib.hid (show E = .tuple #[.agg #[.int .i64 n0, .int .i64 n1, .int .i64 n2, .int .i64 n3, .int .i64 n4, .int .i64 n5, .int .i64 n6, .int .i64 n7], .bool false] by
    rw [HE.out, afterV]
    simp [Venn.afterC, z1.out, z2.out, z3.out, z4.out, z5.out, z6.out, z7.out])
  go_wp2
  refine bodyPost_ret (v := .tuple #[.agg #[.int .i64 n0, .int .i64 n1, .int .i64 n2, .int .i64 n3, .int .i64 n4, .int .i64 n5, .int .i64 n6, .int .i64 n7], .bool false]) (by simp [results, Tryz.results80, go_sem]) rfl ⟨congrArg Ending.returned HF.out.symm, by (repeat' (first | (with_reducible exact Below.refl _ _) | (with_reducible assumption) | (with_reducible refine Below.next ?_ (by with_reducible assumption)) | (with_reducible refine Below.drew ?_) | (with_reducible refine Below.laid ?_ _) | (with_reducible refine Below.setCell ?_ ?_ _) | (with_reducible refine size_of ?_) | (with_reducible refine Nat.le_succ_of_le ?_) | go_size))⟩
end Go.Proofs.YtjnjgcibhjdmdaaGreatDoor

namespace Go.Proofs.YtjnjgcibhjdmdaaGreatDoor
open Go.RowKit

theorem Blk.cells9 {w : World} {g : Nat} {t : TypeId} {x0 x1 x2 x3 x4 x5 x6 x7 x8 : Value} (h : Blk w g t #[x0, x1, x2, x3, x4, x5, x6, x7, x8]) :
    (w.cell? ⟨g, 0, none⟩ = some x0 ∧ w.cell? ⟨g, 1, none⟩ = some x1 ∧ w.cell? ⟨g, 2, none⟩ = some x2 ∧ w.cell? ⟨g, 3, none⟩ = some x3 ∧ w.cell? ⟨g, 4, none⟩ = some x4 ∧ w.cell? ⟨g, 5, none⟩ = some x5 ∧ w.cell? ⟨g, 6, none⟩ = some x6 ∧ w.cell? ⟨g, 7, none⟩ = some x7 ∧ w.cell? ⟨g, 8, none⟩ = some x8) ∧
    (w.frozen? ⟨g, 0, none⟩ = false ∧ w.frozen? ⟨g, 1, none⟩ = false ∧ w.frozen? ⟨g, 2, none⟩ = false ∧ w.frozen? ⟨g, 3, none⟩ = false ∧ w.frozen? ⟨g, 4, none⟩ = false ∧ w.frozen? ⟨g, 5, none⟩ = false ∧ w.frozen? ⟨g, 6, none⟩ = false ∧ w.frozen? ⟨g, 7, none⟩ = false ∧ w.frozen? ⟨g, 8, none⟩ = false) :=
  ⟨⟨h.cell 0, h.cell 1, h.cell 2, h.cell 3, h.cell 4, h.cell 5, h.cell 6, h.cell 7, h.cell 8⟩, h.frozen 0, h.frozen 1, h.frozen 2, h.frozen 3, h.frozen 4, h.frozen 5, h.frozen 6, h.frozen 7, h.frozen 8⟩
theorem below_set9 {B : Nat} {a w : World} (h : Below B a w) {g : Nat} (hg : B ≤ g) (x0 x1 x2 x3 x4 x5 x6 x7 x8 : Value) :
    Below B a (((((((((w.setCell ⟨g, 0, none⟩ x0).setCell ⟨g, 1, none⟩ x1).setCell ⟨g, 2, none⟩ x2).setCell ⟨g, 3, none⟩ x3).setCell ⟨g, 4, none⟩ x4).setCell ⟨g, 5, none⟩ x5).setCell ⟨g, 6, none⟩ x6).setCell ⟨g, 7, none⟩ x7).setCell ⟨g, 8, none⟩ x8) :=
  (below_set8 h hg x0 x1 x2 x3 x4 x5 x6 x7).setCell (p := ⟨g, 8, none⟩) hg _
/-- A new row's nine cells. -/
abbrev zero9 : Array Value := #[.int .i64 0, .int .i64 0, .int .i64 0, .int .i64 0, .int .i64 0, .int .i64 0, .int .i64 0, .int .i64 0, .int .i64 0]
abbrev row9 (what m tm n : Int) : Array Value := #[.int .i64 (Venn.timesAt what m tm 0), .int .i64 (Venn.timesAt what m tm 1), .int .i64 (Venn.timesAt what m tm 2), .int .i64 (Venn.timesAt what m tm 3), .int .i64 (Venn.timesAt what m tm 4), .int .i64 (Venn.timesAt what m tm 5), .int .i64 (Venn.timesAt what m tm 6), .int .i64 (Venn.timesAt what m tm 7), .int .i64 n]

theorem Blk.far9 {w : World} {g : Nat} {t : TypeId} {cs : Array Value} (h : Blk w g t cs) {p : Nat} (hp : g ≠ p) (x0 x1 x2 x3 x4 x5 x6 x7 x8 : Value) :
    Blk (((((((((w.setCell ⟨p, 0, none⟩ x0).setCell ⟨p, 1, none⟩ x1).setCell ⟨p, 2, none⟩ x2).setCell ⟨p, 3, none⟩ x3).setCell ⟨p, 4, none⟩ x4).setCell ⟨p, 5, none⟩ x5).setCell ⟨p, 6, none⟩ x6).setCell ⟨p, 7, none⟩ x7).setCell ⟨p, 8, none⟩ x8) g t cs :=
  ((((((((h.far (p := ⟨p, 0, none⟩) hp _).far (p := ⟨p, 1, none⟩) hp _).far (p := ⟨p, 2, none⟩) hp _).far (p := ⟨p, 3, none⟩) hp _).far (p := ⟨p, 4, none⟩) hp _).far (p := ⟨p, 5, none⟩) hp _).far (p := ⟨p, 6, none⟩) hp _).far (p := ⟨p, 7, none⟩) hp _).far (p := ⟨p, 8, none⟩) hp _
theorem Blk.set9 {w : World} {g : Nat} {t : TypeId} {y0 y1 y2 y3 y4 y5 y6 y7 y8 : Value} (h : Blk w g t #[y0, y1, y2, y3, y4, y5, y6, y7, y8]) (x0 x1 x2 x3 x4 x5 x6 x7 x8 : Value) :
    Blk (((((((((w.setCell ⟨g, 0, none⟩ x0).setCell ⟨g, 1, none⟩ x1).setCell ⟨g, 2, none⟩ x2).setCell ⟨g, 3, none⟩ x3).setCell ⟨g, 4, none⟩ x4).setCell ⟨g, 5, none⟩ x5).setCell ⟨g, 6, none⟩ x6).setCell ⟨g, 7, none⟩ x7).setCell ⟨g, 8, none⟩ x8) g t #[x0, x1, x2, x3, x4, x5, x6, x7, x8] := by
  have := ((((((((h.set_ 0 x0).set_ 1 x1).set_ 2 x2).set_ 3 x3).set_ 4 x4).set_ 5 x5).set_ 6 x6).set_ 7 x7).set_ 8 x8
  have e : ((((((((#[y0, y1, y2, y3, y4, y5, y6, y7, y8].setIfInBounds 0 x0).setIfInBounds 1 x1).setIfInBounds 2 x2).setIfInBounds 3 x3).setIfInBounds 4 x4).setIfInBounds 5 x5).setIfInBounds 6 x6).setIfInBounds 7 x7).setIfInBounds 8 x8 = #[x0, x1, x2, x3, x4, x5, x6, x7, x8] := by simp
  rw [e] at this
  exact this
def negC (x : Nat → Int) (m : Int) (k : Nat) : Array Value := #[.int .i64 (if 0 < k then -x 0 else x 0), .int .i64 (if 1 < k then -x 1 else x 1), .int .i64 (if 2 < k then -x 2 else x 2), .int .i64 (if 3 < k then -x 3 else x 3), .int .i64 (if 4 < k then -x 4 else x 4), .int .i64 (if 5 < k then -x 5 else x 5), .int .i64 (if 6 < k then -x 6 else x 6), .int .i64 (if 7 < k then -x 7 else x 7), .int .i64 m]
theorem negC_at (x : Nat → Int) (m : Int) (k : Nat) (hk : k < 8) : (negC x m k)[k]? = some (.int .i64 (x k)) := by
  rcases (by omega : k = 0 ∨ k = 1 ∨ k = 2 ∨ k = 3 ∨ k = 4 ∨ k = 5 ∨ k = 6 ∨ k = 7) with rfl | rfl | rfl | rfl | rfl | rfl | rfl | rfl
  all_goals simp [negC]
theorem negC_set (x : Nat → Int) (m : Int) (k : Nat) (hk : k < 8) : (negC x m k).setIfInBounds k (.int .i64 (-x k)) = negC x m (k + 1) := by
  rcases (by omega : k = 0 ∨ k = 1 ∨ k = 2 ∨ k = 3 ∨ k = 4 ∨ k = 5 ∨ k = 6 ∨ k = 7) with rfl | rfl | rfl | rfl | rfl | rfl | rfl | rfl
  all_goals simp [negC]
theorem negC_8 (x : Nat → Int) (m : Int) : negC x m 8 = #[.int .i64 (-x 0), .int .i64 (-x 1), .int .i64 (-x 2), .int .i64 (-x 3), .int .i64 (-x 4), .int .i64 (-x 5), .int .i64 (-x 6), .int .i64 (-x 7), .int .i64 m] := by
  simp [negC]
theorem negC_0 (what m tm n : Int) : row9 what m tm n = negC (Venn.timesAt what m tm) n 0 := by
  simp [negC]
/-- A row as a value. -/
def rowV (a : Venn.Atom) (h : Bool) : Value := .agg #[.int .i64 (Venn.rowT a h 0), .int .i64 (Venn.rowT a h 1), .int .i64 (Venn.rowT a h 2), .int .i64 (Venn.rowT a h 3), .int .i64 (Venn.rowT a h 4), .int .i64 (Venn.rowT a h 5), .int .i64 (Venn.rowT a h 6), .int .i64 (Venn.rowT a h 7), .int .i64 (Venn.rowM a h)]
set_option maxHeartbeats 1000000 in
set_option maxRecDepth 100000 in
theorem rows_Row (what n : Int) (sv tv : Value) (s t : List Int) (holds : Bool) (w : World) (hs : IsInts w sv s) (ht : IsInts w tv t) (hc : Venn.atomChk ⟨what, s, t, n⟩ = 0) :
    Calls Tryz.prog 67 #[.agg #[.int .i64 what, sv, tv, .int .i64 n], .bool holds] w (Keeps (rowV ⟨what, s, t, n⟩ holds) w) := by
  obtain ⟨q1, q5, hcs, qt, qn, q20, q20', _⟩ := Venn.atomChk_parts hc
  simp only at q1 q5 hcs qt qn q20 q20'
  clear hc
  have hw15 : 1 ≤ what ∧ what ≤ 5 := ⟨q1, q5⟩
  have hm := Venn.mask_range s
  obtain ⟨tA, tc, rfl, htr, htl, htc⟩ := ht
  have HT : IsInts w (.slice tA t.length tc) t := ⟨tA, tc, rfl, htr, htl, htc⟩
  clear htr htl htc
  obtain ⟨sA, sc, rfl, hsr, hsl, hsc⟩ := hs
  have HS : IsInts w (.slice sA s.length sc) s := ⟨sA, sc, rfl, hsr, hsl, hsc⟩
  clear hsr hsl hsc
  have htm : 0 ≤ Venn.tMask ⟨what, s, t, n⟩ ∧ Venn.tMask ⟨what, s, t, n⟩ ≤ 255 := by
    unfold Venn.tMask
    split
    · omega
    · exact Venn.mask_range t
  have HV := Lib.hid (show ∀ h, rowV ⟨what, s, t, n⟩ h = .agg #[.int .i64 (if h = true then Venn.timesAt what (Venn.mask s) (Venn.tMask ⟨what, s, t, n⟩) 0 else -Venn.timesAt what (Venn.mask s) (Venn.tMask ⟨what, s, t, n⟩) 0), .int .i64 (if h = true then Venn.timesAt what (Venn.mask s) (Venn.tMask ⟨what, s, t, n⟩) 1 else -Venn.timesAt what (Venn.mask s) (Venn.tMask ⟨what, s, t, n⟩) 1), .int .i64 (if h = true then Venn.timesAt what (Venn.mask s) (Venn.tMask ⟨what, s, t, n⟩) 2 else -Venn.timesAt what (Venn.mask s) (Venn.tMask ⟨what, s, t, n⟩) 2), .int .i64 (if h = true then Venn.timesAt what (Venn.mask s) (Venn.tMask ⟨what, s, t, n⟩) 3 else -Venn.timesAt what (Venn.mask s) (Venn.tMask ⟨what, s, t, n⟩) 3), .int .i64 (if h = true then Venn.timesAt what (Venn.mask s) (Venn.tMask ⟨what, s, t, n⟩) 4 else -Venn.timesAt what (Venn.mask s) (Venn.tMask ⟨what, s, t, n⟩) 4), .int .i64 (if h = true then Venn.timesAt what (Venn.mask s) (Venn.tMask ⟨what, s, t, n⟩) 5 else -Venn.timesAt what (Venn.mask s) (Venn.tMask ⟨what, s, t, n⟩) 5), .int .i64 (if h = true then Venn.timesAt what (Venn.mask s) (Venn.tMask ⟨what, s, t, n⟩) 6 else -Venn.timesAt what (Venn.mask s) (Venn.tMask ⟨what, s, t, n⟩) 6), .int .i64 (if h = true then Venn.timesAt what (Venn.mask s) (Venn.tMask ⟨what, s, t, n⟩) 7 else -Venn.timesAt what (Venn.mask s) (Venn.tMask ⟨what, s, t, n⟩) 7), .int .i64 (Venn.rowM ⟨what, s, t, n⟩ h)] from fun h => rfl)
  have HTM := Lib.hid (show Venn.tMask ⟨what, s, t, n⟩ = if t = [] then 0 else Venn.mask t from rfl)
  have HM := Lib.hid (show ∀ h, Venn.rowM ⟨what, s, t, n⟩ h = if h = true then (if what = 3 then -n else n) else -(if what = 3 then -n else n) - 1 from fun h => rfl)
  generalize Venn.tMask ⟨what, s, t, n⟩ = tm at htm HV HTM
  rw [HV.out holds, HM.out holds]
  obtain ⟨M, hM⟩ : ∃ M, M = (if what = 3 then -n else n) := ⟨_, rfl⟩
  have hMr : -20 ≤ M ∧ M ≤ 20 := by rw [hM]; split <;> omega
  rw [← hM]
  have HMM := Lib.hid hM
  clear hM
  have r0 := Venn.timesAt_range what (Venn.mask s) tm 0
  have r1 := Venn.timesAt_range what (Venn.mask s) tm 1
  have r2 := Venn.timesAt_range what (Venn.mask s) tm 2
  have r3 := Venn.timesAt_range what (Venn.mask s) tm 3
  have r4 := Venn.timesAt_range what (Venn.mask s) tm 4
  have r5 := Venn.timesAt_range what (Venn.mask s) tm 5
  have r6 := Venn.timesAt_range what (Venn.mask s) tm 6
  have r7 := Venn.timesAt_range what (Venn.mask s) tm 7
  have HQ := Lib.hid (And.intro qt qn)
  clear qt qn HV HM q1 q5
  go_enter Tryz.func67, Tryz.ntmps67
  go_upto_if 11 with (fail)
  go_cut [5] (fun s5 wx => s5 = .int .i64 tm ∧ Below w.heap.size w wx ∧ Blk wx w.heap.size 32 #[.int .i64 what, .slice sA s.length sc, .slice tA t.length tc, .int .i64 n] ∧ Blk wx (w.heap.size + 1) 110 zero9)
  case first =>
    have S0 : Below w.heap.size w ((w.alloc (.cells #[.int .i64 what, .slice sA s.length sc, .slice tA t.length tc, .int .i64 n] 32)).alloc (.cells zero9 110)) := by (repeat' (first | (with_reducible exact Below.refl _ _) | (with_reducible assumption) | (with_reducible refine Below.next ?_ (by with_reducible assumption)) | (with_reducible refine Below.drew ?_) | (with_reducible refine Below.laid ?_ _) | (with_reducible refine Below.setCell ?_ ?_ _) | (with_reducible refine size_of ?_) | (with_reducible refine Nat.le_succ_of_le ?_) | go_size))
    have B0 := (Blk.new w 32 #[.int .i64 what, .slice sA s.length sc, .slice tA t.length tc, .int .i64 n]).alloc (.cells zero9 110)
    have R0 := Blk.newAt (w := w.alloc (.cells #[.int .i64 what, .slice sA s.length sc, .slice tA t.length tc, .int .i64 n] 32)) (g := w.heap.size + 1) (by simp) 110 zero9
    by_cases hnil : t = []
    · have HX := Lib.hid (show tm = 0 by rw [HTM.out, if_pos hnil])
      have hl0 : ¬ (0 : Int) < (t.length : Int) := by simp [hnil]
      clear hnil
      go_wp2
      go_meet
      case rel => exact ⟨by rw [HX.out], S0, B0, R0⟩
    · have hl0 : (0 : Int) < (t.length : Int) := by
        rcases t with _ | ⟨x, t⟩
        · exact absurd rfl hnil
        · simp only [List.length_cons]; omega
      have hct : Venn.termChk t = 0 := HQ.out.1 (by
        rcases hh : Venn.hasT what with _ | _
        · exact absurd (HQ.out.2 hh) hnil
        · rfl)
      have HX := Lib.hid (show tm = Venn.mask t by rw [HTM.out, if_neg hnil])
      clear hnil
      go_wp2_with (go_at_call 91; refine (fields_Where _ t _ (HT.keep S0) hct).mono ?_; rintro e w1 ⟨rfl, hb1⟩)
      go_meet
      case rel => exact ⟨by rw [HX.out], Below.next S0 hb1, B0.keep hb1, R0.keep hb1⟩
  case rest =>
    obtain ⟨rfl, S1, B1, R1⟩ := hcut
    have hs1 := HS.keep S1
    obtain ⟨z0, z1, z2, z3⟩ := B1.cells4
    have hbl := B1.lt
    have hrl := R1.lt
    clear HT HQ HTM
    go_upto_region 4 with (fail)
    go_cut [6] (fun s6 wx => ∃ g, s6 = .pointer (some ⟨g, 0, none⟩) ∧ Below w.heap.size w wx ∧ w.heap.size + 1 < g ∧ Blk wx w.heap.size 32 #[.int .i64 what, .slice sA s.length sc, .slice tA t.length tc, .int .i64 n] ∧ Blk wx (w.heap.size + 1) 110 zero9 ∧
      Blk wx g 110 (row9 what (Venn.mask s) tm n))
    case first =>
      clear r0 r1 r2 r3 r4 r5 r6 r7
      have hm1 := hm.1
      go_region_held3 (fun w' => w'.cell? ⟨w.heap.size, 0, none⟩ = some (.int .i64 what) ∧ w'.cell? ⟨w.heap.size, 1, none⟩ = some (.slice sA s.length sc) ∧ w'.cell? ⟨w.heap.size, 2, none⟩ = some (.slice tA t.length tc) ∧ w'.cell? ⟨w.heap.size, 3, none⟩ = some (.int .i64 n))
        (first | with_reducible exact BT.cells4 | with_reducible exact (BT.alloc _).cells4 | with_reducible exact (BT.far9 (by simp; omega) _ _ _ _ _ _ _ _ _).cells4 | with_reducible exact BW.cells4 | with_reducible exact (BW.alloc _).cells4 | with_reducible exact (Blk.drew B1).cells4 | with_reducible exact (Blk.drew (B1.alloc _)).cells4 | with_reducible exact ((Blk.drew B1).alloc _).cells4)
        (first
        | (go_at_call 91; refine (fields_Where _ s _ (hs1.keep (by (repeat' (first | (with_reducible exact Below.refl _ _) | (with_reducible assumption) | (with_reducible refine Below.next ?_ (by with_reducible assumption)) | (with_reducible refine Below.drew ?_) | (with_reducible refine Below.laid ?_ _) | (with_reducible refine Below.setCell ?_ ?_ _) | (with_reducible refine size_of ?_) | (with_reducible refine Nat.le_succ_of_le ?_) | go_size)))) hcs).mono ?_; rintro e w1 ⟨rfl, hb1⟩
           first
           | (have BW := (Blk.drew B1).keep hb1; have RW := (Blk.drew R1).keep hb1; have SW := Below.next (Below.drew S1) hb1)
           | (have BW := (Blk.drew (B1.alloc (.cells zero9 110))).keep hb1; have RW := (Blk.drew (R1.alloc (.cells zero9 110))).keep hb1; have SW := Below.next (Below.drew (Below.laid S1 (.cells zero9 110))) hb1; have BR := (Blk.drew (Blk.new wc 110 zero9)).keep hb1)
           obtain ⟨a0, a1, a2, a3⟩ := BW.cells4
           have hlw := BW.lt
           have hlr := RW.lt)
        | (go_at_call 92; refine (rows_times_cells _ _ _ _ hw15 (by assumption) (by assumption)).mono ?_; rintro e w2 ⟨rfl, hb2⟩
           first
           | (have BT := BW.keep hb2; have RT := RW.keep hb2; have ST := Below.next SW hb2; first | have BR2 := BR.keep hb2 | skip)
           | (have BT := (BW.alloc (.cells zero9 110)).keep hb2; have RT := (RW.alloc (.cells zero9 110)).keep hb2; have ST := Below.next (Below.laid SW (.cells zero9 110)) hb2; have BR2 := (Blk.new w1 110 zero9).keep hb2)
           obtain ⟨b0, b1, b2, b3⟩ := BT.cells4
           have hlt := BT.lt
           have hlu := RT.lt
           first | (obtain ⟨⟨e0, e1, e2, e3, e4, e5, e6, e7, e8⟩, f0, f1, f2, f3, f4, f5, f6, f7, f8⟩ := BR2.cells9) | skip))
      all_goals
        go_wp2
        go_meet
        case rel =>
          refine ⟨_, rfl, ?_, ?_, ?_, ?_, ?_⟩
          all_goals (first
          | with_reducible exact below_set9 ST (by go_size) _ _ _ _ _ _ _ _ _
          | with_reducible exact below_set9 (Below.laid ST _) (by go_size) _ _ _ _ _ _ _ _ _
          | with_reducible exact BT.far9 (by go_size) _ _ _ _ _ _ _ _ _
          | with_reducible exact RT.far9 (by go_size) _ _ _ _ _ _ _ _ _
          | with_reducible exact BR2.set9 _ _ _ _ _ _ _ _ _
          | with_reducible exact (BT.alloc _).far9 (by go_size) _ _ _ _ _ _ _ _ _
          | with_reducible exact (RT.alloc _).far9 (by go_size) _ _ _ _ _ _ _ _ _
          | with_reducible exact (Blk.new _ _ zero9).set9 _ _ _ _ _ _ _ _ _
          | with_reducible exact Below.laid ST _
          | with_reducible exact BT.alloc _
          | with_reducible exact RT.alloc _
          | with_reducible exact Blk.new _ _ _
          | go_size)
    case rest =>
      obtain ⟨g, rfl, S2, hg, B2, R2, G2⟩ := hcut
      clear S1 B1 R1 z0 z1 z2 z3 hbl hrl hs1
      have hgl := G2.lt
      obtain ⟨z0, z1, z2, z3⟩ := B2.cells4
      go_upto_if 27 with (fail)
      go_cut [] (fun wx => Below w.heap.size w wx ∧ Blk wx (w.heap.size + 1) 110 zero9 ∧ Blk wx g 110 (row9 what (Venn.mask s) tm M))
      case first =>
        have f8 := G2.frozen 8
        have c8 := G2.cell 8
        rw [show (row9 what (Venn.mask s) tm n)[8]? = some (.int .i64 n) from rfl] at c8
        have hwr : IntKind.i64.wrap (-n) = -n := wrap_of (by omega) (by omega)
        by_cases h3 : what = 3
        · have hM' := Lib.hid (show M = -n by rw [HMM.out, if_pos h3])
          have G3 := G2.set_ 8 (.int .i64 (-n))
          rw [show (row9 what (Venn.mask s) tm n).setIfInBounds 8 (.int .i64 (-n)) = row9 what (Venn.mask s) tm (-n) by simp] at G3
          have hb3 : (what == 3) = true := by simpa using h3
          clear h3
          go_wp2
          go_meet
          case rel => rw [hM'.out]; exact ⟨S2.setCell (by go_size) _, R2.far (by go_size) _, G3⟩
        · have hM' := Lib.hid (show M = n by rw [HMM.out, if_neg h3])
          have hb3 : (what == 3) = false := by simpa using h3
          clear h3
          go_wp2
          go_meet
          case rel => rw [hM'.out]; exact ⟨S2, R2, G2⟩
      case rest =>
        obtain ⟨S3, R3, G3⟩ := hcut
        clear HMM S2 R2 G2 B2 hgl z0 z1 z2 z3
        have hrl3 := R3.lt
        have hgl3 := G3.lt
        cases holds
        · rw [negC_0] at G3
          go_wp2
          go_loopw [34] (fun i wr => ∃ k : Nat, k ≤ 8 ∧ i = .int .i64 k ∧ Below w.heap.size w wr ∧ Blk wr (w.heap.size + 1) 110 zero9 ∧ Blk wr g 110 (negC (Venn.timesAt what (Venn.mask s) tm) M k))
            (fun i _ => 8 - (intOf i).toNat)
          case atStart => exact ⟨0, by omega, rfl, S3, R3, G3⟩
          case round =>
            obtain ⟨k, hk, rfl, hb, hR, hG⟩ := hrel
            have hgl4 := hG.lt
            by_cases hlt : (k : Int) < 8
            · have hc := hG.cell k
              have hfz := hG.frozen k
              rw [negC_at _ _ _ (by omega)] at hc
              have hx := Venn.timesAt_range what (Venn.mask s) tm k
              have hG' := hG.set_ k (.int .i64 (-(Venn.timesAt what (Venn.mask s) tm k)))
              rw [negC_set _ _ _ (by omega)] at hG'
              have hwr : IntKind.i64.wrap (-(Venn.timesAt what (Venn.mask s) tm k)) = -(Venn.timesAt what (Venn.mask s) tm k) := wrap_of (by omega) (by omega)
              generalize Venn.timesAt what (Venn.mask s) tm k = X at hc hG' hwr
              clear hx
              have hk0 : (0 : Int) ≤ (k : Int) := by omega
              go_wp2
              go_roundw
              case rel => exact ⟨k + 1, by omega, by go_num, hb.setCell (by go_size) _, hR.far (by go_size) _, hG'⟩
              case measure => simp [intOf]; omega
            · obtain rfl : k = 8 := by omega
              rw [negC_8] at hG
              have f8 := hG.frozen 8
              have c8' := hG.cell 8
              have hG' := hG.set_ 8 (.int .i64 (-M - 1))
              obtain ⟨⟨c0, c1, c2, c3, c4, c5, c6, c7, c8⟩, _⟩ := hG'.cells9
              obtain ⟨⟨d0, d1, d2, d3, d4, d5, d6, d7, d8⟩, g0, g1, g2, g3, g4, g5, g6, g7, g8⟩ := (hR.far (p := ⟨g, 8, none⟩) (by go_size) (.int .i64 (-M - 1))).cells9
              have hwr : IntKind.i64.wrap (-M) = -M := wrap_of (by omega) (by omega)
              have hwr2 : IntKind.i64.wrap (-M - 1) = -M - 1 := wrap_of (by omega) (by omega)
              go_wp2
              refine bodyPost_ret (v := .agg #[.int .i64 (-Venn.timesAt what (Venn.mask s) tm 0), .int .i64 (-Venn.timesAt what (Venn.mask s) tm 1), .int .i64 (-Venn.timesAt what (Venn.mask s) tm 2), .int .i64 (-Venn.timesAt what (Venn.mask s) tm 3), .int .i64 (-Venn.timesAt what (Venn.mask s) tm 4), .int .i64 (-Venn.timesAt what (Venn.mask s) tm 5), .int .i64 (-Venn.timesAt what (Venn.mask s) tm 6), .int .i64 (-Venn.timesAt what (Venn.mask s) tm 7), .int .i64 (-M - 1)]) (by simp [results, Tryz.results67, go_sem, d0, d1, d2, d3, d4, d5, d6, d7, d8]) rfl ⟨by simp, ?_⟩
              exact below_set9 (hb.setCell (by go_size) _) (by go_size) _ _ _ _ _ _ _ _ _
        · obtain ⟨⟨d0, d1, d2, d3, d4, d5, d6, d7, d8⟩, f0, f1, f2, f3, f4, f5, f6, f7, f8⟩ := R3.cells9
          obtain ⟨⟨c0, c1, c2, c3, c4, c5, c6, c7, c8⟩, _⟩ := G3.cells9
          go_wp2
          refine bodyPost_ret (v := .agg (row9 what (Venn.mask s) tm M)) (by simp [results, Tryz.results67, go_sem, d0, d1, d2, d3, d4, d5, d6, d7, d8]) rfl ⟨by simp, ?_⟩
          exact below_set9 S3 (by go_size) _ _ _ _ _ _ _ _ _
end Go.Proofs.YtjnjgcibhjdmdaaGreatDoor

namespace Go.Proofs.YtjnjgcibhjdmdaaGreatDoor
open Go.RowKit

theorem mul_in {x n : Int} (hx : -2 ≤ x ∧ x ≤ 2) (hn : 0 ≤ n ∧ n ≤ 6) : -12 ≤ x * n ∧ x * n ≤ 12 := by
  obtain ⟨h1, h2⟩ := hx
  rcases (by omega : x = -2 ∨ x = -1 ∨ x = 0 ∨ x = 1 ∨ x = 2) with rfl | rfl | rfl | rfl | rfl
  all_goals omega
/-- A slice of rows reads as l; a row is nine numbers. -/
def IsRows (w : World) (v : Value) (l : List (List Int)) : Prop :=
  ∃ A c, v = .slice A l.length c ∧ Rd w A (l.flatMap fun r => r.map (Value.int .i64)) ∧ (∀ r ∈ l, r.length = 9) ∧ l.length ≤ c ∧ c ≤ maxLen
theorem IsRows.keep {w w' : World} {v : Value} {l : List (List Int)} (h : IsRows w v l) (hb : Below w.heap.size w w') : IsRows w' v l := by
  obtain ⟨A, c, hv, hr, hc⟩ := h
  exact ⟨A, c, hv, hr.keep hb, hc⟩
theorem IsRows.nil (w : World) : IsRows w (.slice none 0 0) [] := ⟨none, 0, rfl, Rd.nil _ _, by simp, Nat.le_refl _, by simp⟩
theorem flat_at : ∀ (l : List (List Int)) (k j : Nat) (x : List Int) (y : Int), (∀ r ∈ l, r.length = 9) → l[k]? = some x → x[j]? = some y →
    (l.flatMap fun r => r.map (Value.int .i64))[k * 9 + j]? = some (.int .i64 y) := by
  intro l
  induction l with
  | nil => intro k j x y _ h _; simp at h
  | cons r l ih =>
    intro k j x y hl hk hj
    have hr := hl r (by simp)
    rw [List.flatMap_cons]
    cases k with
    | zero =>
      simp at hk
      subst hk
      rw [List.getElem?_append_left (by simp; have := (List.getElem?_eq_some_iff.1 hj).1; omega)]
      simp [hj]
    | succ k =>
      rw [List.getElem?_append_right (by simp; omega)]
      simp only [List.length_map, hr]
      rw [show (k + 1) * 9 + j - 9 = k * 9 + j by omega]
      exact ih k j x y (fun r hr => hl r (List.mem_cons_of_mem _ hr)) (by simpa using hk) hj
/-- Row k, cell by cell. -/
theorem Rd.row {w : World} {A : Option Addr} {l : List (List Int)} (h : Rd w A (l.flatMap fun r => r.map (Value.int .i64))) (hl : ∀ r ∈ l, r.length = 9) {k : Nat} (hk : k < l.length) :
    ∃ ad x0 x1 x2 x3 x4 x5 x6 x7 x8, A = some ad ∧ l[k] = [x0, x1, x2, x3, x4, x5, x6, x7, x8] ∧ w.cell? (ad.add (k * 9)) = some (.int .i64 x0) ∧ w.cell? ⟨(ad.add (k * 9)).block, (ad.add (k * 9)).off + 1, none⟩ = some (.int .i64 x1) ∧ w.cell? ⟨(ad.add (k * 9)).block, (ad.add (k * 9)).off + 2, none⟩ = some (.int .i64 x2) ∧ w.cell? ⟨(ad.add (k * 9)).block, (ad.add (k * 9)).off + 3, none⟩ = some (.int .i64 x3) ∧ w.cell? ⟨(ad.add (k * 9)).block, (ad.add (k * 9)).off + 4, none⟩ = some (.int .i64 x4) ∧ w.cell? ⟨(ad.add (k * 9)).block, (ad.add (k * 9)).off + 5, none⟩ = some (.int .i64 x5) ∧ w.cell? ⟨(ad.add (k * 9)).block, (ad.add (k * 9)).off + 6, none⟩ = some (.int .i64 x6) ∧ w.cell? ⟨(ad.add (k * 9)).block, (ad.add (k * 9)).off + 7, none⟩ = some (.int .i64 x7) ∧ w.cell? ⟨(ad.add (k * 9)).block, (ad.add (k * 9)).off + 8, none⟩ = some (.int .i64 x8) := by
  have hk9 := hl _ (List.getElem_mem hk)
  have hke : l[k]? = some l[k] := List.getElem?_eq_getElem hk
  generalize l[k] = x at hk9 hke
  match x, hk9 with
  | [x0, x1, x2, x3, x4, x5, x6, x7, x8], _ =>
    have hc := fun (j : Nat) (y : Int) (hj : [x0, x1, x2, x3, x4, x5, x6, x7, x8][j]? = some y) => h _ _ (flat_at l k j _ y hl hke hj)
    obtain ⟨ad, rfl, h0⟩ := hc 0 x0 rfl
    have hc' := fun (j : Nat) (y : Int) (hj : [x0, x1, x2, x3, x4, x5, x6, x7, x8][j]? = some y) => (by obtain ⟨ad', e, hh⟩ := hc j y hj; cases e; exact hh : w.cell? (ad.add (k * 9 + j)) = some (.int .i64 y))
    have hj := fun (j : Nat) (hj : j ≠ 0) => (show ad.add (k * 9 + j) = ⟨(ad.add (k * 9)).block, (ad.add (k * 9)).off + j, none⟩ by rw [← add_of_add]; exact if_neg hj)
    exact ⟨ad, x0, x1, x2, x3, x4, x5, x6, x7, x8, rfl, rfl, h0, by rw [← hj 1 (by decide)]; exact hc' 1 x1 rfl, by rw [← hj 2 (by decide)]; exact hc' 2 x2 rfl, by rw [← hj 3 (by decide)]; exact hc' 3 x3 rfl, by rw [← hj 4 (by decide)]; exact hc' 4 x4 rfl, by rw [← hj 5 (by decide)]; exact hc' 5 x5 rfl, by rw [← hj 6 (by decide)]; exact hc' 6 x6 rfl, by rw [← hj 7 (by decide)]; exact hc' 7 x7 rfl, by rw [← hj 8 (by decide)]; exact hc' 8 x8 rfl⟩

set_option maxHeartbeats 4000000 in
set_option maxRecDepth 100000 in
theorem rows_So (v : Value) (l : List (List Int)) (n0 n1 n2 n3 n4 n5 n6 n7 : Int) (w : World) (hl : IsRows w v l) (hok : l.all Venn.rowOk = true) (hp : (0 ≤ n0 ∧ n0 ≤ 6) ∧ (0 ≤ n1 ∧ n1 ≤ 6) ∧ (0 ≤ n2 ∧ n2 ≤ 6) ∧ (0 ≤ n3 ∧ n3 ≤ 6) ∧ (0 ≤ n4 ∧ n4 ≤ 6) ∧ (0 ≤ n5 ∧ n5 ≤ 6) ∧ (0 ≤ n6 ∧ n6 ≤ 6) ∧ (0 ≤ n7 ∧ n7 ≤ 6)) :
    Calls Tryz.prog 66 #[v, .agg #[.int .i64 n0, .int .i64 n1, .int .i64 n2, .int .i64 n3, .int .i64 n4, .int .i64 n5, .int .i64 n6, .int .i64 n7]] w (Keeps (.bool (Venn.rowsSo l [n0, n1, n2, n3, n4, n5, n6, n7])) w) := by
  obtain ⟨A, c, rfl, hrd, hl9, hlc, hcc⟩ := hl
  unfold maxLen at hcc
  obtain ⟨b0, b1, b2, b3, b4, b5, b6, b7⟩ := hp
  obtain ⟨E, hE⟩ : ∃ E, E = Venn.rowsSo l [n0, n1, n2, n3, n4, n5, n6, n7] := ⟨_, rfl⟩
  rw [← hE]
  have HE := Lib.hid hE
  have HOK := Lib.hid hok
  have HRD := Lib.hid hrd
  have HL9 := Lib.hid hl9
  clear hE hok hrd hl9
  go_enter Tryz.func66, Tryz.ntmps66
  go_wp2
  go_loopw [12] (fun i wr => ∃ k : Nat, k ≤ l.length ∧ i = .int .i64 k ∧ Below w.heap.size w wr ∧ Blk wr w.heap.size 75 #[.int .i64 n0, .int .i64 n1, .int .i64 n2, .int .i64 n3, .int .i64 n4, .int .i64 n5, .int .i64 n6, .int .i64 n7] ∧ E = Venn.rowsSo (l.drop k) [n0, n1, n2, n3, n4, n5, n6, n7]) (fun i _ => l.length - (intOf i).toNat)
  case atStart => exact ⟨0, Nat.zero_le _, rfl, by (repeat' (first | (with_reducible exact Below.refl _ _) | (with_reducible assumption) | (with_reducible refine Below.next ?_ (by with_reducible assumption)) | (with_reducible refine Below.drew ?_) | (with_reducible refine Below.laid ?_ _) | (with_reducible refine Below.setCell ?_ ?_ _) | (with_reducible refine size_of ?_) | (with_reducible refine Nat.le_succ_of_le ?_) | go_size)), Blk.new _ _ _, by rw [List.drop_zero]; exact HE.out⟩
  case round =>
    obtain ⟨k, hk, rfl, hb, hB, hrest⟩ := hrel
    obtain ⟨wo, rfl⟩ : ∃ wo : World, wo = wr := ⟨_, rfl⟩
    have HR := Lib.hid hrest; clear hrest
    by_cases hlt : k < l.length
    · have HD := Lib.hid (List.drop_eq_getElem_cons hlt)
      have hrok := List.all_eq_true.1 HOK.out _ (List.getElem_mem hlt)
      obtain ⟨ad, x0, x1, x2, x3, x4, x5, x6, x7, x8, rfl, hx, hc0, hc1, hc2, hc3, hc4, hc5, hc6, hc7, hc8⟩ := (HRD.out.keep hb).row HL9.out hlt
      rw [hx] at hrok
      have HX := Lib.hid hx
      clear hx
      have bk1 : (0 : Int) ≤ (k : Int) := by omega
      have bk2 : (k : Int) < (l.length : Int) := by omega
      simp only [Venn.rowOk, Bool.and_eq_true, decide_eq_true_eq] at hrok
      obtain ⟨⟨⟨⟨⟨⟨⟨⟨r0, r1⟩, r2⟩, r3⟩, r4⟩, r5⟩, r6⟩, r7⟩, r8⟩ := hrok
      obtain ⟨p0, hp0⟩ : ∃ p, x0 * n0 = p := ⟨_, rfl⟩
      have q0 := mul_in r0 b0
      rw [hp0] at q0
      have hw0 : IntKind.i64.wrap (x0 * n0) = p0 := by rw [hp0]; exact IntWalk.i64_in _ (by omega)
      obtain ⟨p1, hp1⟩ : ∃ p, x1 * n1 = p := ⟨_, rfl⟩
      have q1 := mul_in r1 b1
      rw [hp1] at q1
      have hw1 : IntKind.i64.wrap (x1 * n1) = p1 := by rw [hp1]; exact IntWalk.i64_in _ (by omega)
      obtain ⟨p2, hp2⟩ : ∃ p, x2 * n2 = p := ⟨_, rfl⟩
      have q2 := mul_in r2 b2
      rw [hp2] at q2
      have hw2 : IntKind.i64.wrap (x2 * n2) = p2 := by rw [hp2]; exact IntWalk.i64_in _ (by omega)
      obtain ⟨p3, hp3⟩ : ∃ p, x3 * n3 = p := ⟨_, rfl⟩
      have q3 := mul_in r3 b3
      rw [hp3] at q3
      have hw3 : IntKind.i64.wrap (x3 * n3) = p3 := by rw [hp3]; exact IntWalk.i64_in _ (by omega)
      obtain ⟨p4, hp4⟩ : ∃ p, x4 * n4 = p := ⟨_, rfl⟩
      have q4 := mul_in r4 b4
      rw [hp4] at q4
      have hw4 : IntKind.i64.wrap (x4 * n4) = p4 := by rw [hp4]; exact IntWalk.i64_in _ (by omega)
      obtain ⟨p5, hp5⟩ : ∃ p, x5 * n5 = p := ⟨_, rfl⟩
      have q5 := mul_in r5 b5
      rw [hp5] at q5
      have hw5 : IntKind.i64.wrap (x5 * n5) = p5 := by rw [hp5]; exact IntWalk.i64_in _ (by omega)
      obtain ⟨p6, hp6⟩ : ∃ p, x6 * n6 = p := ⟨_, rfl⟩
      have q6 := mul_in r6 b6
      rw [hp6] at q6
      have hw6 : IntKind.i64.wrap (x6 * n6) = p6 := by rw [hp6]; exact IntWalk.i64_in _ (by omega)
      obtain ⟨p7, hp7⟩ : ∃ p, x7 * n7 = p := ⟨_, rfl⟩
      have q7 := mul_in r7 b7
      rw [hp7] at q7
      have hw7 : IntKind.i64.wrap (x7 * n7) = p7 := by rw [hp7]; exact IntWalk.i64_in _ (by omega)
      obtain ⟨⟨c0, c1, c2, c3, c4, c5, c6, c7⟩, _⟩ := hB.cells8
      have hBl := hB.lt
      have HS := Lib.hid (show Venn.rowSo [x0, x1, x2, x3, x4, x5, x6, x7, x8] [n0, n1, n2, n3, n4, n5, n6, n7] = decide (p0 + p1 + p2 + p3 + p4 + p5 + p6 + p7 ≤ x8) by simp only [Venn.rowSo, hp0, hp1, hp2, hp3, hp4, hp5, hp6, hp7])
      clear hp0 hp1 hp2 hp3 hp4 hp5 hp6 hp7
      go_wp2
      refine wp_loop_rounds 9 ?_
      rw [rounds_succ]
      have hix := idx8_0 x0 x1 x2 x3 x4 x5 x6 x7
      go_wp2
      clear hix
      rw [rounds_succ]
      have hix := idx8_1 x0 x1 x2 x3 x4 x5 x6 x7
      go_wp2
      clear hix
      rw [rounds_succ]
      have hix := idx8_2 x0 x1 x2 x3 x4 x5 x6 x7
      go_wp2
      clear hix
      rw [rounds_succ]
      have hix := idx8_3 x0 x1 x2 x3 x4 x5 x6 x7
      go_wp2
      clear hix
      rw [rounds_succ]
      have hix := idx8_4 x0 x1 x2 x3 x4 x5 x6 x7
      go_wp2
      clear hix
      rw [rounds_succ]
      have hix := idx8_5 x0 x1 x2 x3 x4 x5 x6 x7
      go_wp2
      clear hix
      rw [rounds_succ]
      have hix := idx8_6 x0 x1 x2 x3 x4 x5 x6 x7
      go_wp2
      clear hix
      rw [rounds_succ]
      have hix := idx8_7 x0 x1 x2 x3 x4 x5 x6 x7
      go_wp2
      clear hix
      rw [rounds_succ]
      by_cases hsum : x8 < p0 + p1 + p2 + p3 + p4 + p5 + p6 + p7
      · have HV := Lib.hid (show E = false by rw [HR.out, HD.out, HX.out, Venn.rowsSo, List.all_cons, HS.out, decide_eq_false (by omega)]; rfl)
        go_wp2
        go_ret
        exact ⟨ret_bool HV.out.symm, by (repeat' (first | (with_reducible exact Below.refl _ _) | (with_reducible assumption) | (with_reducible refine Below.next ?_ (by with_reducible assumption)) | (with_reducible refine Below.drew ?_) | (with_reducible refine Below.laid ?_ _) | (with_reducible refine Below.setCell ?_ ?_ _) | (with_reducible refine size_of ?_) | (with_reducible refine Nat.le_succ_of_le ?_) | go_size))⟩
      · have HV := Lib.hid (show E = Venn.rowsSo (l.drop (k + 1)) [n0, n1, n2, n3, n4, n5, n6, n7] by rw [HR.out, HD.out, HX.out, Venn.rowsSo, List.all_cons, HS.out, decide_eq_true (by omega)]; rfl)
        go_wp2
        go_roundw
        case rel => exact ⟨k + 1, by omega, by go_num, by (repeat' (first | (with_reducible exact Below.refl _ _) | (with_reducible assumption) | (with_reducible refine Below.next ?_ (by with_reducible assumption)) | (with_reducible refine Below.drew ?_) | (with_reducible refine Below.laid ?_ _) | (with_reducible refine Below.setCell ?_ ?_ _) | (with_reducible refine size_of ?_) | (with_reducible refine Nat.le_succ_of_le ?_) | go_size)), hB.alloc _, HV.out⟩
        case measure => simp [intOf]; omega
    · have hd1 : l.drop k = [] := List.drop_eq_nil_of_le (by omega)
      have HV := Lib.hid (show E = true by rw [HR.out, hd1]; rfl)
      clear hd1
      go_wp2
      go_ret
      exact ⟨ret_bool HV.out.symm, hb⟩
end Go.Proofs.YtjnjgcibhjdmdaaGreatDoor

namespace Go.Proofs.YtjnjgcibhjdmdaaGreatDoor
open Go.RowKit

end Go.Proofs.YtjnjgcibhjdmdaaGreatDoor

namespace Go.Proofs.YtjnjgcibhjdmdaaGreatDoor
open Go.RowKit

theorem run_append_of_nil {P : Program} (w : World) (base : Nat) (t ty e : TypeId) (i : TypeInfo) (size : Nat) (ht : P.underlying t = some (.slice e)) (hi : P.info? e = some i)
    (v : Value) (n : Nat) (xs : List Value) (hown : w.ownsRow base e size v n xs) (c : Nat) : (Builtin.append_ #[t, t] ty #[v, .slice none 0 c]).run P w = .ok v w := by
  rcases hown.2 with ⟨rfl, rfl⟩ | ⟨g, cap, cur, rfl, _, _, hnc, _⟩
  · simp [Builtin.append_, run_underlying ht, sizeOf, typeInfo, hi, Builtin.lenOf, Builtin.firstCells]
  · simp [Builtin.append_, run_underlying ht, sizeOf, typeInfo, hi, Builtin.lenOf, Builtin.firstCells, hnc, storeCells]

set_option maxRecDepth 100000 in
theorem wpList_appR {ops : Array Oper} {rest : List Oper} {o : Oper} {a : Act} {Q : Exit → Act → World → Prop} (w : World) (hgd : o.guard = none) (s x : Operand)
    (ho : o.op = .call { callee := .builtin .append, args := #[s, x], argTypes := #[30, 30] })
    (base : Nat) (v : Value) (n : Nat) (xs : List Value) (hs : a.eval s = v) (hown : w.ownsRow base 3 1 v n xs)
    (A : Option Addr) (c : Nat) (l : List Int) (hx : a.eval x = .slice A l.length c) (hr : Rd w A (l.map (Value.int .i64))) (hn : n + l.length < 1099511627776) (hbase : base ≤ w.heap.size)
    (h : ∀ v' w', w'.ownsRow base 3 1 v' (n + l.length) (xs ++ l.map (Value.int .i64)) → w.grownBy w' v.ownBlock → wpList Tryz.prog ops Q rest (a.put o.dst v') w') : wpList Tryz.prog ops Q (o :: rest) a w := by
  obtain ⟨i0, hi, hz0, hz1, hz2⟩ := info_parts int_info
  rcases A with _ | ad
  · have hl : l = [] := by
      rcases l with _ | ⟨y, l⟩
      · rfl
      · obtain ⟨_, h, _⟩ := hr 0 (.int .i64 y) (by simp)
        cases h
    subst hl
    refine wpList_plain hgd fun K hK => ?_
    have hrun := run_append_of_nil (P := Tryz.prog) w base 30 o.type 3 i0 1 Tryz.underlying30 hi v n xs hown c
    unfold Oper.wp execOp
    simp only [ho, resolve, invoke, builtin, Sem.run_bind, Sem.run_pure, Result.andThen_ok, List.map_toArray, List.map_cons, List.map_nil, hs, hx, List.length_nil, hrun]
    exact hK _ _ (h v w (by simpa using hown) (World.grownBy.refl w _))
  · refine wpList_append_own w hgd s x _ ho base _ i0 _ 1 8 Tryz.underlying30 hi hz0 hz1 hz2 rfl (by decide) v n xs hs hown ad l.length c (l.map (Value.int .i64)) hx (by simp) ?_ ?_ (by unfold maxLen; omega) (by omega) hbase (fun v' w' h1 h2 _ => h v' w' h1 h2)
    · intro j u hj
      obtain ⟨ad', e, hc⟩ := hr j u hj
      injection e with e
      subst e
      exact hc
    · intro u hu
      obtain ⟨y, _, rfl⟩ := List.mem_map.1 hu
      rfl

theorem IsInts.one (w : World) (x : Int) (t : TypeId) : IsInts (w.alloc (.cells #[.int .i64 x] t)) (.slice (some ⟨w.heap.size, 0, none⟩) 1 1) [x] := IsInts.of_new w [x] t (by simp [maxLen])

/-- What a row of the call's own holds reads as a list. -/
theorem IsInts.of_own {w : World} {base : Nat} {e : TypeId} {v : Value} {n : Nat} {l : List Int} (h : w.ownsRow base e 1 v n (l.map (Value.int .i64))) : IsInts w v l := by
  have hn : n = l.length := by have := h.1; simpa using this.symm
  subst hn
  rcases h.2 with ⟨rfl, hl⟩ | ⟨g, cap, cur, rfl, _, hh, hnc, hcm, hcs, ht⟩
  · have : l = [] := List.eq_nil_of_length_eq_zero hl
    subst this
    exact ⟨none, 0, rfl, Rd.nil _ _, Nat.le_refl _, by simp⟩
  · exact ⟨_, _, rfl, fun j u hj => ⟨_, rfl, h.cells (g := g) rfl j u hj⟩, hnc, hcm⟩

end Go.Proofs.YtjnjgcibhjdmdaaGreatDoor

namespace Go.Proofs.YtjnjgcibhjdmdaaGreatDoor
open Go.RowKit

abbrev flat9 (l : List (List Int)) : List Value := l.flatMap fun r => r.map (Value.int .i64)
theorem flat_len : ∀ (l : List (List Int)), (∀ r ∈ l, r.length = 9) → (flat9 l).length = l.length * 9 := by
  intro l
  induction l with
  | nil => intro _; rfl
  | cons r l ih =>
    intro h
    have h1 := h r (by simp)
    have h2 := ih fun r hr => h r (List.mem_cons_of_mem _ hr)
    simp only [flat9, List.flatMap_cons, List.length_append, List.length_map, List.length_cons] at h2 ⊢
    omega
theorem row_info : (Tryz.prog.info? 110).map (fun i => (i.zero, i.size, i.bytes)) = some (some (.agg zero9), 9, 72) := by kernel_rfl

set_option maxRecDepth 100000 in
theorem wpList_appRows {ops : Array Oper} {rest : List Oper} {o : Oper} {a : Act} {Q : Exit → Act → World → Prop} (w : World) (hgd : o.guard = none) (s x : Operand)
    (ho : o.op = .call { callee := .builtin .append, args := #[s, x], argTypes := #[78, 78] })
    (base : Nat) (v : Value) (n : Nat) (xs : List Value) (hs : a.eval s = v) (hown : w.ownsRow base 110 9 v n xs)
    (A : Option Addr) (c : Nat) (l : List (List Int)) (hx : a.eval x = .slice A l.length c) (hr : Rd w A (flat9 l)) (h9 : ∀ r ∈ l, r.length = 9) (hn : n + l.length ≤ 1000) (hbase : base ≤ w.heap.size)
    (h : ∀ v' w', w'.ownsRow base 110 9 v' (n + l.length) (xs ++ flat9 l) → w.grownBy w' v.ownBlock → wpList Tryz.prog ops Q rest (a.put o.dst v') w') : wpList Tryz.prog ops Q (o :: rest) a w := by
  obtain ⟨i0, hi, hz0, hz1, hz2⟩ := info_parts row_info
  rcases A with _ | ad
  · have hl : l = [] := by
      rcases l with _ | ⟨y, l⟩
      · rfl
      · have hy := h9 y (by simp)
        match y, hy with
        | y0 :: y', _ =>
          obtain ⟨_, h, _⟩ := hr 0 (.int .i64 y0) (by simp [flat9])
          cases h
    subst hl
    refine wpList_plain hgd fun K hK => ?_
    have hrun := run_append_of_nil (P := Tryz.prog) w base 78 o.type 110 i0 9 Tryz.underlying78 hi v n xs hown c
    unfold Oper.wp execOp
    simp only [ho, resolve, invoke, builtin, Sem.run_bind, Sem.run_pure, Result.andThen_ok, List.map_toArray, List.map_cons, List.map_nil, hs, hx, List.length_nil, hrun]
    exact hK _ _ (h v w (by simpa [flat9] using hown) (World.grownBy.refl w _))
  · refine wpList_append_own w hgd s x _ ho base _ i0 _ 9 72 Tryz.underlying78 hi hz0 hz1 hz2 rfl (by decide) v n xs hs hown ad l.length c (flat9 l) hx (flat_len l h9) ?_ ?_ (by unfold maxLen; omega) (by omega) hbase (fun v' w' h1 h2 _ => h v' w' h1 h2)
    · intro j u hj
      obtain ⟨ad', e, hc⟩ := hr j u hj
      injection e with e
      subst e
      exact hc
    · intro u hu
      obtain ⟨r, _, hu⟩ := List.mem_flatMap.1 hu
      obtain ⟨y, _, rfl⟩ := List.mem_map.1 hu
      rfl

/-- What a row of the call's own holds reads as rows. -/
theorem IsRows.of_own {w : World} {base : Nat} {e : TypeId} {v : Value} {n : Nat} {l : List (List Int)} (h : w.ownsRow base e 9 v n (flat9 l)) (h9 : ∀ r ∈ l, r.length = 9) : IsRows w v l := by
  have hn : n = l.length := by have := h.1; rw [flat_len l h9] at this; omega
  subst hn
  rcases h.2 with ⟨rfl, hl⟩ | ⟨g, cap, cur, rfl, _, hh, hnc, hcm, hcs, ht⟩
  · have : l = [] := List.eq_nil_of_length_eq_zero hl
    subst this
    exact IsRows.nil _
  · exact ⟨_, _, rfl, fun j u hj => ⟨_, rfl, h.cells (g := g) rfl j u hj⟩, h9, hnc, hcm⟩

theorem counts_bound {n0 n1 n2 n3 n4 n5 n6 n7 : Int} (hc : Venn.countsChk [n0, n1, n2, n3, n4, n5, n6, n7] = 0) : (0 ≤ n0 ∧ n0 ≤ 6) ∧ (0 ≤ n1 ∧ n1 ≤ 6) ∧ (0 ≤ n2 ∧ n2 ≤ 6) ∧ (0 ≤ n3 ∧ n3 ≤ 6) ∧ (0 ≤ n4 ∧ n4 ≤ 6) ∧ (0 ≤ n5 ∧ n5 ≤ 6) ∧ (0 ≤ n6 ∧ n6 ≤ 6) ∧ (0 ≤ n7 ∧ n7 ≤ 6) := by
  unfold Venn.countsChk at hc
  split at hc
  · rename_i ha
    simp only [List.all_cons, List.all_nil, Bool.and_true, Bool.and_eq_true, Venn.things, decide_eq_true_eq] at ha
    omega
  · cases hc
theorem counts_sum {n0 n1 n2 n3 n4 n5 n6 n7 : Int} (hc : Venn.countsChk [n0, n1, n2, n3, n4, n5, n6, n7] = 0) : n0 + n1 + n2 + n3 + n4 + n5 + n6 + n7 ≤ 6 := by
  have hb := counts_bound hc
  unfold Venn.countsChk at hc
  split at hc
  · split at hc
    · cases hc
    · rename_i h6
      simp only [List.sum_cons, List.sum_nil] at h6
      omega
  · cases hc
end Go.Proofs.YtjnjgcibhjdmdaaGreatDoor
