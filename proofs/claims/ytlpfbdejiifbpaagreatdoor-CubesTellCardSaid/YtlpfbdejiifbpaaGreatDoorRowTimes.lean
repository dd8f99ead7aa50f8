/-
  THE WALK of rows.times.
-/
import Derived.Test.YtlpfbdejiifbpaaGreatDoorVennP1
import Derived.Test.YtlpfbdejiifbpaaGreatDoorMem
import Derived.Deep.QuietTactic
import Derived.BigQuiet
import Derived.RegionTactic
namespace Go.Proofs.YtlpfbdejiifbpaaGreatDoor
open Go.RowKit

def timesCells (what s t : Int) (k : Nat) : Array Value := ((List.range 8).map fun i => Value.int .i64 (if i < k then Venn.timesAt what s t i else 0)).toArray
theorem timesCells_set (what s t : Int) (k : Nat) (hk : k < 8) : (timesCells what s t k).setIfInBounds k (.int .i64 (Venn.timesAt what s t k)) = timesCells what s t (k + 1) := by
  unfold timesCells
  rcases (by omega : k = 0 ∨ k = 1 ∨ k = 2 ∨ k = 3 ∨ k = 4 ∨ k = 5 ∨ k = 6 ∨ k = 7) with rfl | rfl | rfl | rfl | rfl | rfl | rfl | rfl
  all_goals simp [List.range_succ]
theorem timesCells_8 (what s t : Int) : timesCells what s t 8 = #[.int .i64 (Venn.timesAt what s t 0), .int .i64 (Venn.timesAt what s t 1), .int .i64 (Venn.timesAt what s t 2), .int .i64 (Venn.timesAt what s t 3), .int .i64 (Venn.timesAt what s t 4), .int .i64 (Venn.timesAt what s t 5), .int .i64 (Venn.timesAt what s t 6), .int .i64 (Venn.timesAt what s t 7)] := by
  simp [timesCells, List.range_succ]
theorem timesCells_0 (what s t : Int) : timesCells what s t 0 = #[.int .i64 0, .int .i64 0, .int .i64 0, .int .i64 0, .int .i64 0, .int .i64 0, .int .i64 0, .int .i64 0] := by
  simp [timesCells, List.range_succ]
theorem Blk.cells8 {w : World} {g : Nat} {t : TypeId} {x0 x1 x2 x3 x4 x5 x6 x7 : Value} (h : Blk w g t #[x0, x1, x2, x3, x4, x5, x6, x7]) :
    (w.cell? ⟨g, 0, none⟩ = some x0 ∧ w.cell? ⟨g, 1, none⟩ = some x1 ∧ w.cell? ⟨g, 2, none⟩ = some x2 ∧ w.cell? ⟨g, 3, none⟩ = some x3 ∧ w.cell? ⟨g, 4, none⟩ = some x4 ∧ w.cell? ⟨g, 5, none⟩ = some x5 ∧ w.cell? ⟨g, 6, none⟩ = some x6 ∧ w.cell? ⟨g, 7, none⟩ = some x7) ∧
    (w.frozen? ⟨g, 0, none⟩ = false ∧ w.frozen? ⟨g, 1, none⟩ = false ∧ w.frozen? ⟨g, 2, none⟩ = false ∧ w.frozen? ⟨g, 3, none⟩ = false ∧ w.frozen? ⟨g, 4, none⟩ = false ∧ w.frozen? ⟨g, 5, none⟩ = false ∧ w.frozen? ⟨g, 6, none⟩ = false ∧ w.frozen? ⟨g, 7, none⟩ = false) :=
  ⟨⟨h.cell 0, h.cell 1, h.cell 2, h.cell 3, h.cell 4, h.cell 5, h.cell 6, h.cell 7⟩, h.frozen 0, h.frozen 1, h.frozen 2, h.frozen 3, h.frozen 4, h.frozen 5, h.frozen 6, h.frozen 7⟩
theorem below_set8 {B : Nat} {a w : World} (h : Below B a w) {g : Nat} (hg : B ≤ g) (x0 x1 x2 x3 x4 x5 x6 x7 : Value) :
    Below B a ((((((((w.setCell ⟨g, 0, none⟩ x0).setCell ⟨g, 1, none⟩ x1).setCell ⟨g, 2, none⟩ x2).setCell ⟨g, 3, none⟩ x3).setCell ⟨g, 4, none⟩ x4).setCell ⟨g, 5, none⟩ x5).setCell ⟨g, 6, none⟩ x6).setCell ⟨g, 7, none⟩ x7) :=
  (((((((h.setCell (p := ⟨g, 0, none⟩) hg _).setCell (p := ⟨g, 1, none⟩) hg _).setCell (p := ⟨g, 2, none⟩) hg _).setCell (p := ⟨g, 3, none⟩) hg _).setCell (p := ⟨g, 4, none⟩) hg _).setCell (p := ⟨g, 5, none⟩) hg _).setCell (p := ⟨g, 6, none⟩) hg _).setCell (p := ⟨g, 7, none⟩) hg _
theorem and_one (s : Int) (k : Nat) (hs : 0 ≤ s ∧ s ≤ 255) : bits .and .i64 (s / 2 ^ k) 1 = Venn.bitI s k := by
  obtain ⟨S, rfl⟩ := Int.eq_ofNat_of_zero_le hs.1
  have e : ((S : Int) / 2 ^ k) = ((S / 2 ^ k : Nat) : Int) := by simp
  have hle : S / 2 ^ k ≤ S := Nat.div_le_self _ _
  have := i64_and_nat (S / 2 ^ k) 1 (by omega) (by omega)
  unfold Venn.bitI
  rw [e]
  rw [show ((1 : Nat) : Int) = 1 from rfl] at this
  rw [this, Nat.and_one_is_mod]
  simp
theorem bits01 : ∀ a b : Fin 2, bits .andNot .i64 (a.val : Int) (b.val : Int) = Venn.timesV 1 a.val b.val ∧ bits .xor .i64 (a.val : Int) (b.val : Int) = Venn.timesV 2 a.val b.val := by decide +kernel
theorem bits01' {a b : Int} (ha : a = 0 ∨ a = 1) (hb : b = 0 ∨ b = 1) : bits .andNot .i64 a b = Venn.timesV 1 a b ∧ bits .xor .i64 a b = Venn.timesV 2 a b := by
  rcases ha with rfl | rfl <;> rcases hb with rfl | rfl
  · exact bits01 0 0
  · exact bits01 0 1
  · exact bits01 1 0
  · exact bits01 1 1

set_option maxHeartbeats 4000000 in
set_option maxRecDepth 100000 in
theorem rows_times1 (s t : Int) (w : World) (hs : 0 ≤ s ∧ s ≤ 255) (ht : 0 ≤ t ∧ t ≤ 255) :
    Calls Tryz.prog 99 #[.int .i64 1, .int .i64 s, .int .i64 t] w (Keeps (.agg (timesCells 1 s t 8)) w) := by
  rw [timesCells_8]
  go_enter Tryz.func99, Tryz.ntmps99
  go_wp2
  go_loopw [11] (fun i wr => ∃ k : Nat, k ≤ 8 ∧ i = .int .i64 k ∧ Below w.heap.size w wr ∧ Blk wr w.heap.size 88 (timesCells 1 s t 0) ∧ Blk wr (w.heap.size + 1) 88 (timesCells 1 s t k))
    (fun i _ => 8 - (intOf i).toNat)
  case atStart => exact ⟨0, by omega, rfl, by (repeat' (first | (with_reducible exact Below.refl _ _) | (with_reducible assumption) | (with_reducible refine Below.next ?_ (by with_reducible assumption)) | (with_reducible refine Below.drew ?_) | (with_reducible refine Below.laid ?_ _) | (with_reducible refine Below.setCell ?_ ?_ _) | (with_reducible refine size_of ?_) | (with_reducible refine Nat.le_succ_of_le ?_) | go_size)), (Blk.newAt (by simp) _ _).alloc _, Blk.newAt (by simp) _ _⟩
  case round =>
    obtain ⟨k, hk, rfl, hb, hR, hO⟩ := hrel
    obtain ⟨wo, rfl⟩ : ∃ wo : World, wo = wr := ⟨_, rfl⟩
    by_cases hlt : (k : Int) < 8
    · have hc := hO.cell k
      have hfz := hO.frozen k
      have HS := Lib.hid (timesCells_set 1 s t k (by omega))
      obtain ⟨old, hold⟩ : ∃ old, (timesCells 1 s t k)[k]? = some old := ⟨_, Array.getElem?_eq_getElem (by simp [timesCells]; omega)⟩
      rw [hold] at hc
      have hk0 : (0 : Int) ≤ (k : Int) := by omega
      have HA := Lib.hid (and_one s k hs)
      have HB := Lib.hid (and_one t k ht)
      have HV := Lib.hid (show Venn.timesAt 1 s t k = Venn.timesV 1 (Venn.bitI s k) (Venn.bitI t k) from rfl)
      have ha := Venn.bitI_01 s k
      have hb' := Venn.bitI_01 t k
      have HX := Lib.hid (And.intro ha hb')
      have ha1 : 0 ≤ Venn.bitI s k ∧ Venn.bitI s k ≤ 1 := by omega
      have hb1 : 0 ≤ Venn.bitI t k ∧ Venn.bitI t k ≤ 1 := by omega
      clear ha hb'
      go_wp2_with fail
      go_quiet (fail)
      rw [HA.out, HB.out]
      go_wp2
      go_roundw
      case rel =>
        refine ⟨k + 1, by omega, by go_num, (below_drewN hb _).setCell (p := ⟨w.heap.size + 1, k, none⟩) (by simp) _, (hR.drewN _).far (p := ⟨w.heap.size + 1, k, none⟩) (by simp) _, ?_⟩
        have := (hO.drewN 1).set_ k (.int .i64 (Venn.timesAt 1 s t k))
        rw [HS.out, HV.out] at this
        rw [← (bits01' HX.out.1 HX.out.2).1] at this; exact this
      case measure => simp [intOf]; omega
    · obtain rfl : k = 8 := by omega
      rw [timesCells_8] at hO
      rw [timesCells_0] at hR
      obtain ⟨⟨c0, c1, c2, c3, c4, c5, c6, c7⟩, _⟩ := hO.cells8
      obtain ⟨⟨d0, d1, d2, d3, d4, d5, d6, d7⟩, f0, f1, f2, f3, f4, f5, f6, f7⟩ := hR.cells8
      clear hO hR
      go_wp2
      refine bodyPost_ret (v := .agg #[.int .i64 (Venn.timesAt 1 s t 0), .int .i64 (Venn.timesAt 1 s t 1), .int .i64 (Venn.timesAt 1 s t 2), .int .i64 (Venn.timesAt 1 s t 3), .int .i64 (Venn.timesAt 1 s t 4), .int .i64 (Venn.timesAt 1 s t 5), .int .i64 (Venn.timesAt 1 s t 6), .int .i64 (Venn.timesAt 1 s t 7)]) (by simp [results, Tryz.results99, go_sem, d0, d1, d2, d3, d4, d5, d6, d7]) rfl ⟨rfl, ?_⟩
      exact below_set8 hb (Nat.le_refl _) _ _ _ _ _ _ _ _

set_option maxHeartbeats 4000000 in
set_option maxRecDepth 100000 in
theorem rows_times2 (s t : Int) (w : World) (hs : 0 ≤ s ∧ s ≤ 255) (ht : 0 ≤ t ∧ t ≤ 255) :
    Calls Tryz.prog 99 #[.int .i64 2, .int .i64 s, .int .i64 t] w (Keeps (.agg (timesCells 2 s t 8)) w) := by
  rw [timesCells_8]
  go_enter Tryz.func99, Tryz.ntmps99
  go_wp2
  go_loopw [11] (fun i wr => ∃ k : Nat, k ≤ 8 ∧ i = .int .i64 k ∧ Below w.heap.size w wr ∧ Blk wr w.heap.size 88 (timesCells 2 s t 0) ∧ Blk wr (w.heap.size + 1) 88 (timesCells 2 s t k))
    (fun i _ => 8 - (intOf i).toNat)
  case atStart => exact ⟨0, by omega, rfl, by (repeat' (first | (with_reducible exact Below.refl _ _) | (with_reducible assumption) | (with_reducible refine Below.next ?_ (by with_reducible assumption)) | (with_reducible refine Below.drew ?_) | (with_reducible refine Below.laid ?_ _) | (with_reducible refine Below.setCell ?_ ?_ _) | (with_reducible refine size_of ?_) | (with_reducible refine Nat.le_succ_of_le ?_) | go_size)), (Blk.newAt (by simp) _ _).alloc _, Blk.newAt (by simp) _ _⟩
  case round =>
    obtain ⟨k, hk, rfl, hb, hR, hO⟩ := hrel
    obtain ⟨wo, rfl⟩ : ∃ wo : World, wo = wr := ⟨_, rfl⟩
    by_cases hlt : (k : Int) < 8
    · have hc := hO.cell k
      have hfz := hO.frozen k
      have HS := Lib.hid (timesCells_set 2 s t k (by omega))
      obtain ⟨old, hold⟩ : ∃ old, (timesCells 2 s t k)[k]? = some old := ⟨_, Array.getElem?_eq_getElem (by simp [timesCells]; omega)⟩
      rw [hold] at hc
      have hk0 : (0 : Int) ≤ (k : Int) := by omega
      have HA := Lib.hid (and_one s k hs)
      have HB := Lib.hid (and_one t k ht)
      have HV := Lib.hid (show Venn.timesAt 2 s t k = Venn.timesV 2 (Venn.bitI s k) (Venn.bitI t k) from rfl)
      have ha := Venn.bitI_01 s k
      have hb' := Venn.bitI_01 t k
      have HX := Lib.hid (And.intro ha hb')
      have ha1 : 0 ≤ Venn.bitI s k ∧ Venn.bitI s k ≤ 1 := by omega
      have hb1 : 0 ≤ Venn.bitI t k ∧ Venn.bitI t k ≤ 1 := by omega
      clear ha hb'
      go_wp2_with fail
      go_quiet (fail)
      rw [HA.out, HB.out]
      go_wp2
      go_roundw
      case rel =>
        refine ⟨k + 1, by omega, by go_num, (below_drewN hb _).setCell (p := ⟨w.heap.size + 1, k, none⟩) (by simp) _, (hR.drewN _).far (p := ⟨w.heap.size + 1, k, none⟩) (by simp) _, ?_⟩
        have := (hO.drewN 1).set_ k (.int .i64 (Venn.timesAt 2 s t k))
        rw [HS.out, HV.out] at this
        rw [← (bits01' HX.out.1 HX.out.2).2] at this; exact this
      case measure => simp [intOf]; omega
    · obtain rfl : k = 8 := by omega
      rw [timesCells_8] at hO
      rw [timesCells_0] at hR
      obtain ⟨⟨c0, c1, c2, c3, c4, c5, c6, c7⟩, _⟩ := hO.cells8
      obtain ⟨⟨d0, d1, d2, d3, d4, d5, d6, d7⟩, f0, f1, f2, f3, f4, f5, f6, f7⟩ := hR.cells8
      clear hO hR
      go_wp2
      refine bodyPost_ret (v := .agg #[.int .i64 (Venn.timesAt 2 s t 0), .int .i64 (Venn.timesAt 2 s t 1), .int .i64 (Venn.timesAt 2 s t 2), .int .i64 (Venn.timesAt 2 s t 3), .int .i64 (Venn.timesAt 2 s t 4), .int .i64 (Venn.timesAt 2 s t 5), .int .i64 (Venn.timesAt 2 s t 6), .int .i64 (Venn.timesAt 2 s t 7)]) (by simp [results, Tryz.results99, go_sem, d0, d1, d2, d3, d4, d5, d6, d7]) rfl ⟨rfl, ?_⟩
      exact below_set8 hb (Nat.le_refl _) _ _ _ _ _ _ _ _

set_option maxHeartbeats 4000000 in
set_option maxRecDepth 100000 in
theorem rows_times3 (s t : Int) (w : World) (hs : 0 ≤ s ∧ s ≤ 255) (ht : 0 ≤ t ∧ t ≤ 255) :
    Calls Tryz.prog 99 #[.int .i64 3, .int .i64 s, .int .i64 t] w (Keeps (.agg (timesCells 3 s t 8)) w) := by
  rw [timesCells_8]
  go_enter Tryz.func99, Tryz.ntmps99
  go_wp2
  go_loopw [11] (fun i wr => ∃ k : Nat, k ≤ 8 ∧ i = .int .i64 k ∧ Below w.heap.size w wr ∧ Blk wr w.heap.size 88 (timesCells 3 s t 0) ∧ Blk wr (w.heap.size + 1) 88 (timesCells 3 s t k))
    (fun i _ => 8 - (intOf i).toNat)
  case atStart => exact ⟨0, by omega, rfl, by (repeat' (first | (with_reducible exact Below.refl _ _) | (with_reducible assumption) | (with_reducible refine Below.next ?_ (by with_reducible assumption)) | (with_reducible refine Below.drew ?_) | (with_reducible refine Below.laid ?_ _) | (with_reducible refine Below.setCell ?_ ?_ _) | (with_reducible refine size_of ?_) | (with_reducible refine Nat.le_succ_of_le ?_) | go_size)), (Blk.newAt (by simp) _ _).alloc _, Blk.newAt (by simp) _ _⟩
  case round =>
    obtain ⟨k, hk, rfl, hb, hR, hO⟩ := hrel
    obtain ⟨wo, rfl⟩ : ∃ wo : World, wo = wr := ⟨_, rfl⟩
    by_cases hlt : (k : Int) < 8
    · have hc := hO.cell k
      have hfz := hO.frozen k
      have HS := Lib.hid (timesCells_set 3 s t k (by omega))
      obtain ⟨old, hold⟩ : ∃ old, (timesCells 3 s t k)[k]? = some old := ⟨_, Array.getElem?_eq_getElem (by simp [timesCells]; omega)⟩
      rw [hold] at hc
      have hk0 : (0 : Int) ≤ (k : Int) := by omega
      have HA := Lib.hid (and_one s k hs)
      have HB := Lib.hid (and_one t k ht)
      have HV := Lib.hid (show Venn.timesAt 3 s t k = Venn.timesV 3 (Venn.bitI s k) (Venn.bitI t k) from rfl)
      have ha := Venn.bitI_01 s k
      have hb' := Venn.bitI_01 t k
      have HX := Lib.hid (And.intro ha hb')
      have ha1 : 0 ≤ Venn.bitI s k ∧ Venn.bitI s k ≤ 1 := by omega
      have hb1 : 0 ≤ Venn.bitI t k ∧ Venn.bitI t k ≤ 1 := by omega
      clear ha hb'
      go_wp2_with fail
      go_quiet (fail)
      rw [HA.out, HB.out]
      go_wp2
      go_roundw
      case rel =>
        refine ⟨k + 1, by omega, by go_num, (below_drewN hb _).setCell (p := ⟨w.heap.size + 1, k, none⟩) (by simp) _, (hR.drewN _).far (p := ⟨w.heap.size + 1, k, none⟩) (by simp) _, ?_⟩
        have := (hO.drewN 1).set_ k (.int .i64 (Venn.timesAt 3 s t k))
        rw [HS.out, HV.out] at this
        exact this
      case measure => simp [intOf]; omega
    · obtain rfl : k = 8 := by omega
      rw [timesCells_8] at hO
      rw [timesCells_0] at hR
      obtain ⟨⟨c0, c1, c2, c3, c4, c5, c6, c7⟩, _⟩ := hO.cells8
      obtain ⟨⟨d0, d1, d2, d3, d4, d5, d6, d7⟩, f0, f1, f2, f3, f4, f5, f6, f7⟩ := hR.cells8
      clear hO hR
      go_wp2
      refine bodyPost_ret (v := .agg #[.int .i64 (Venn.timesAt 3 s t 0), .int .i64 (Venn.timesAt 3 s t 1), .int .i64 (Venn.timesAt 3 s t 2), .int .i64 (Venn.timesAt 3 s t 3), .int .i64 (Venn.timesAt 3 s t 4), .int .i64 (Venn.timesAt 3 s t 5), .int .i64 (Venn.timesAt 3 s t 6), .int .i64 (Venn.timesAt 3 s t 7)]) (by simp [results, Tryz.results99, go_sem, d0, d1, d2, d3, d4, d5, d6, d7]) rfl ⟨rfl, ?_⟩
      exact below_set8 hb (Nat.le_refl _) _ _ _ _ _ _ _ _

set_option maxHeartbeats 4000000 in
set_option maxRecDepth 100000 in
theorem rows_times4 (s t : Int) (w : World) (hs : 0 ≤ s ∧ s ≤ 255) (ht : 0 ≤ t ∧ t ≤ 255) :
    Calls Tryz.prog 99 #[.int .i64 4, .int .i64 s, .int .i64 t] w (Keeps (.agg (timesCells 4 s t 8)) w) := by
  rw [timesCells_8]
  go_enter Tryz.func99, Tryz.ntmps99
  go_wp2
  go_loopw [11] (fun i wr => ∃ k : Nat, k ≤ 8 ∧ i = .int .i64 k ∧ Below w.heap.size w wr ∧ Blk wr w.heap.size 88 (timesCells 4 s t 0) ∧ Blk wr (w.heap.size + 1) 88 (timesCells 4 s t k))
    (fun i _ => 8 - (intOf i).toNat)
  case atStart => exact ⟨0, by omega, rfl, by (repeat' (first | (with_reducible exact Below.refl _ _) | (with_reducible assumption) | (with_reducible refine Below.next ?_ (by with_reducible assumption)) | (with_reducible refine Below.drew ?_) | (with_reducible refine Below.laid ?_ _) | (with_reducible refine Below.setCell ?_ ?_ _) | (with_reducible refine size_of ?_) | (with_reducible refine Nat.le_succ_of_le ?_) | go_size)), (Blk.newAt (by simp) _ _).alloc _, Blk.newAt (by simp) _ _⟩
  case round =>
    obtain ⟨k, hk, rfl, hb, hR, hO⟩ := hrel
    obtain ⟨wo, rfl⟩ : ∃ wo : World, wo = wr := ⟨_, rfl⟩
    by_cases hlt : (k : Int) < 8
    · have hc := hO.cell k
      have hfz := hO.frozen k
      have HS := Lib.hid (timesCells_set 4 s t k (by omega))
      obtain ⟨old, hold⟩ : ∃ old, (timesCells 4 s t k)[k]? = some old := ⟨_, Array.getElem?_eq_getElem (by simp [timesCells]; omega)⟩
      rw [hold] at hc
      have hk0 : (0 : Int) ≤ (k : Int) := by omega
      have HA := Lib.hid (and_one s k hs)
      have HB := Lib.hid (and_one t k ht)
      have HV := Lib.hid (show Venn.timesAt 4 s t k = Venn.timesV 4 (Venn.bitI s k) (Venn.bitI t k) from rfl)
      have ha := Venn.bitI_01 s k
      have hb' := Venn.bitI_01 t k
      have HX := Lib.hid (And.intro ha hb')
      have ha1 : 0 ≤ Venn.bitI s k ∧ Venn.bitI s k ≤ 1 := by omega
      have hb1 : 0 ≤ Venn.bitI t k ∧ Venn.bitI t k ≤ 1 := by omega
      clear ha hb'
      go_wp2_with fail
      go_quiet (fail)
      rw [HA.out, HB.out]
      go_wp2
      go_roundw
      case rel =>
        refine ⟨k + 1, by omega, by go_num, (below_drewN hb _).setCell (p := ⟨w.heap.size + 1, k, none⟩) (by simp) _, (hR.drewN _).far (p := ⟨w.heap.size + 1, k, none⟩) (by simp) _, ?_⟩
        have := (hO.drewN 1).set_ k (.int .i64 (Venn.timesAt 4 s t k))
        rw [HS.out, HV.out] at this
        exact this
      case measure => simp [intOf]; omega
    · obtain rfl : k = 8 := by omega
      rw [timesCells_8] at hO
      rw [timesCells_0] at hR
      obtain ⟨⟨c0, c1, c2, c3, c4, c5, c6, c7⟩, _⟩ := hO.cells8
      obtain ⟨⟨d0, d1, d2, d3, d4, d5, d6, d7⟩, f0, f1, f2, f3, f4, f5, f6, f7⟩ := hR.cells8
      clear hO hR
      go_wp2
      refine bodyPost_ret (v := .agg #[.int .i64 (Venn.timesAt 4 s t 0), .int .i64 (Venn.timesAt 4 s t 1), .int .i64 (Venn.timesAt 4 s t 2), .int .i64 (Venn.timesAt 4 s t 3), .int .i64 (Venn.timesAt 4 s t 4), .int .i64 (Venn.timesAt 4 s t 5), .int .i64 (Venn.timesAt 4 s t 6), .int .i64 (Venn.timesAt 4 s t 7)]) (by simp [results, Tryz.results99, go_sem, d0, d1, d2, d3, d4, d5, d6, d7]) rfl ⟨rfl, ?_⟩
      exact below_set8 hb (Nat.le_refl _) _ _ _ _ _ _ _ _

set_option maxHeartbeats 4000000 in
set_option maxRecDepth 100000 in
theorem rows_times5 (s t : Int) (w : World) (hs : 0 ≤ s ∧ s ≤ 255) (ht : 0 ≤ t ∧ t ≤ 255) :
    Calls Tryz.prog 99 #[.int .i64 5, .int .i64 s, .int .i64 t] w (Keeps (.agg (timesCells 5 s t 8)) w) := by
  rw [timesCells_8]
  go_enter Tryz.func99, Tryz.ntmps99
  go_wp2
  go_loopw [11] (fun i wr => ∃ k : Nat, k ≤ 8 ∧ i = .int .i64 k ∧ Below w.heap.size w wr ∧ Blk wr w.heap.size 88 (timesCells 5 s t 0) ∧ Blk wr (w.heap.size + 1) 88 (timesCells 5 s t k))
    (fun i _ => 8 - (intOf i).toNat)
  case atStart => exact ⟨0, by omega, rfl, by (repeat' (first | (with_reducible exact Below.refl _ _) | (with_reducible assumption) | (with_reducible refine Below.next ?_ (by with_reducible assumption)) | (with_reducible refine Below.drew ?_) | (with_reducible refine Below.laid ?_ _) | (with_reducible refine Below.setCell ?_ ?_ _) | (with_reducible refine size_of ?_) | (with_reducible refine Nat.le_succ_of_le ?_) | go_size)), (Blk.newAt (by simp) _ _).alloc _, Blk.newAt (by simp) _ _⟩
  case round =>
    obtain ⟨k, hk, rfl, hb, hR, hO⟩ := hrel
    obtain ⟨wo, rfl⟩ : ∃ wo : World, wo = wr := ⟨_, rfl⟩
    by_cases hlt : (k : Int) < 8
    · have hc := hO.cell k
      have hfz := hO.frozen k
      have HS := Lib.hid (timesCells_set 5 s t k (by omega))
      obtain ⟨old, hold⟩ : ∃ old, (timesCells 5 s t k)[k]? = some old := ⟨_, Array.getElem?_eq_getElem (by simp [timesCells]; omega)⟩
      rw [hold] at hc
      have hk0 : (0 : Int) ≤ (k : Int) := by omega
      have HA := Lib.hid (and_one s k hs)
      have HB := Lib.hid (and_one t k ht)
      have HV := Lib.hid (show Venn.timesAt 5 s t k = Venn.timesV 5 (Venn.bitI s k) (Venn.bitI t k) from rfl)
      have ha := Venn.bitI_01 s k
      have hb' := Venn.bitI_01 t k
      have HX := Lib.hid (And.intro ha hb')
      have ha1 : 0 ≤ Venn.bitI s k ∧ Venn.bitI s k ≤ 1 := by omega
      have hb1 : 0 ≤ Venn.bitI t k ∧ Venn.bitI t k ≤ 1 := by omega
      clear ha hb'
      go_wp2_with fail
      go_quiet (fail)
      rw [HA.out, HB.out]
      go_wp2
      go_roundw
      case rel =>
        refine ⟨k + 1, by omega, by go_num, (below_drewN hb _).setCell (p := ⟨w.heap.size + 1, k, none⟩) (by simp) _, (hR.drewN _).far (p := ⟨w.heap.size + 1, k, none⟩) (by simp) _, ?_⟩
        have := (hO.drewN 1).set_ k (.int .i64 (Venn.timesAt 5 s t k))
        rw [HS.out, HV.out] at this
        exact this
      case measure => simp [intOf]; omega
    · obtain rfl : k = 8 := by omega
      rw [timesCells_8] at hO
      rw [timesCells_0] at hR
      obtain ⟨⟨c0, c1, c2, c3, c4, c5, c6, c7⟩, _⟩ := hO.cells8
      obtain ⟨⟨d0, d1, d2, d3, d4, d5, d6, d7⟩, f0, f1, f2, f3, f4, f5, f6, f7⟩ := hR.cells8
      clear hO hR
      go_wp2
      refine bodyPost_ret (v := .agg #[.int .i64 (Venn.timesAt 5 s t 0), .int .i64 (Venn.timesAt 5 s t 1), .int .i64 (Venn.timesAt 5 s t 2), .int .i64 (Venn.timesAt 5 s t 3), .int .i64 (Venn.timesAt 5 s t 4), .int .i64 (Venn.timesAt 5 s t 5), .int .i64 (Venn.timesAt 5 s t 6), .int .i64 (Venn.timesAt 5 s t 7)]) (by simp [results, Tryz.results99, go_sem, d0, d1, d2, d3, d4, d5, d6, d7]) rfl ⟨rfl, ?_⟩
      exact below_set8 hb (Nat.le_refl _) _ _ _ _ _ _ _ _

theorem rows_times (what s t : Int) (w : World) (hw : 1 ≤ what ∧ what ≤ 5) (hs : 0 ≤ s ∧ s ≤ 255) (ht : 0 ≤ t ∧ t ≤ 255) :
    Calls Tryz.prog 99 #[.int .i64 what, .int .i64 s, .int .i64 t] w (Keeps (.agg (timesCells what s t 8)) w) := by
  rcases (by omega : what = 1 ∨ what = 2 ∨ what = 3 ∨ what = 4 ∨ what = 5) with rfl | rfl | rfl | rfl | rfl
  · exact rows_times1 s t w hs ht
  · exact rows_times2 s t w hs ht
  · exact rows_times3 s t w hs ht
  · exact rows_times4 s t w hs ht
  · exact rows_times5 s t w hs ht
/-- The same, cell by cell. -/
theorem rows_times_cells (what s t : Int) (w : World) (hw : 1 ≤ what ∧ what ≤ 5) (hs : 0 ≤ s ∧ s ≤ 255) (ht : 0 ≤ t ∧ t ≤ 255) :
    Calls Tryz.prog 99 #[.int .i64 what, .int .i64 s, .int .i64 t] w (Keeps (.agg #[.int .i64 (Venn.timesAt what s t 0), .int .i64 (Venn.timesAt what s t 1), .int .i64 (Venn.timesAt what s t 2), .int .i64 (Venn.timesAt what s t 3), .int .i64 (Venn.timesAt what s t 4), .int .i64 (Venn.timesAt what s t 5), .int .i64 (Venn.timesAt what s t 6), .int .i64 (Venn.timesAt what s t 7)]) w) := by
  have := rows_times what s t w hw hs ht
  rwa [timesCells_8] at this
end Go.Proofs.YtlpfbdejiifbpaaGreatDoor
