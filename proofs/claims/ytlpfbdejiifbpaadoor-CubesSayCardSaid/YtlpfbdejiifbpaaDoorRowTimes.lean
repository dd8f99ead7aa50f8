/-
  THE WALK of rows.times.
-/
import Derived.Test.YtlpfbdejiifbpaaDoorVennP1
import Derived.Test.YtlpfbdejiifbpaaDoorMem
import Derived.Deep.QuietTactic
import Derived.BigQuiet
import Derived.RegionTactic
namespace Go.Proofs.YtlpfbdejiifbpaaDoor
open Go.RowKit

def timesCells (what s t : Int) (k : Nat) : Array Value := ((List.range 8).map fun i => Value.int .i64 (if i < k then Venn.timesAt what s t i else 0)).toArray
theorem timesCells_set (what s t : Int) (k : Nat) (hk : k < 8) : (timesCells what s t k).setIfInBounds k (.int .i64 (Venn.timesAt what s t k)) = timesCells what s t (k + 1) := by
  unfold timesCells
  rcases (by omega : k = 0 ∨ k = 1 ∨ k = 2 ∨ k = 3 ∨ k = 4 ∨ k = 5 ∨ k = 6 ∨ k = 7) with rfl | rfl | rfl | rfl | rfl | rfl | rfl | rfl
  all_goals simp [List.range_succ]
theorem timesCells_8 (what s t : Int) : timesCells what s t 8 = #[.int .i64 (Venn.timesAt what s t 0), .int .i64 (Venn.timesAt what s t 1), .int .i64 (Venn.timesAt what s t 2), .int .i64 (Venn.timesAt what s t 3), .int .i64 (Venn.timesAt what s t 4), .int .i64 (Venn.timesAt what s t 5), .int .i64 (Venn.timesAt what s t 6), .int .i64 (Venn.timesAt what s t 7)] := by
  simp [timesCells, List.range_succ]
theorem timesCells_0 (what s t : Int) : timesCells what s t 0 = #[.int .i64 0, .int .i64 0, .int .i64 0, .int .i64 0, .int .i64 0, .int .i64 0, .int .i64 0, .int .i64 0] := by
  simp [timesCells, List.range_succ]
theorem Blk.cells8 {w : World} {g : Nat} {t : TypeId} {x0 x1 x2 x3 x4 x5 x6 x7 : Value} (h : Blk w g t #[x0, x1, x2, x3, x4, x5, x6, x7]) :
    (w.cell? ⟨g, 0, none⟩ = some x0 ∧ w.cell? ⟨g, 1, none⟩ = some x1 ∧ w.cell? ⟨g, 2, none⟩ = some x2 ∧ w.cell? ⟨g, 3, none⟩ = some x3 ∧ w.cell? ⟨g, 4, none⟩ = some x4 ∧ w.cell? ⟨g, 5, none⟩ = some x5 ∧ w.cell? ⟨g, 6, none⟩ = some x6 ∧ w.cell? ⟨g, 7, none⟩ = some x7) ∧
    (w.frozen? ⟨g, 0, none⟩ = false ∧ w.frozen? ⟨g, 1, none⟩ = false ∧ w.frozen? ⟨g, 2, none⟩ = false ∧ w.frozen? ⟨g, 3, none⟩ = false ∧ w.frozen? ⟨g, 4, none⟩ = false ∧ w.frozen? ⟨g, 5, none⟩ = false ∧ w.frozen? ⟨g, 6, none⟩ = false ∧ w.frozen? ⟨g, 7, none⟩ = false) :=
  ⟨⟨h.cell 0, h.cell 1, h.cell 2, h.cell 3, h.cell 4, h.cell 5, h.cell 6, h.cell 7⟩, h.frozen 0, h.frozen 1, h.frozen 2, h.frozen 3, h.frozen 4, h.frozen 5, h.frozen 6, h.frozen 7⟩
theorem below_set8 {B : Nat} {a w : World} (h : Below B a w) {g : Nat} (hg : B ≤ g) (x0 x1 x2 x3 x4 x5 x6 x7 : Value) :
    Below B a ((((((((w.setCell ⟨g, 0, none⟩ x0).setCell ⟨g, 1, none⟩ x1).setCell ⟨g, 2, none⟩ x2).setCell ⟨g, 3, none⟩ x3).setCell ⟨g, 4, none⟩ x4).setCell ⟨g, 5, none⟩ x5).setCell ⟨g, 6, none⟩ x6).setCell ⟨g, 7, none⟩ x7) :=
  (((((((h.setCell (p := ⟨g, 0, none⟩) hg _).setCell (p := ⟨g, 1, none⟩) hg _).setCell (p := ⟨g, 2, none⟩) hg _).setCell (p := ⟨g, 3, none⟩) hg _).setCell (p := ⟨g, 4, none⟩) hg _).setCell (p := ⟨g, 5, none⟩) hg _).setCell (p := ⟨g, 6, none⟩) hg _).setCell (p := ⟨g, 7, none⟩) hg _
theorem and_one (s : Int) (k : Nat) (hs : 0 ≤ s ∧ s ≤ 255) : bits .and .i64 (s / 2 ^ k) 1 = Venn.bitI s k := by
  obtain ⟨S, rfl⟩ := Int.eq_ofNat_of_zero_le hs.1
  have e : ((S : Int) / 2 ^ k) = ((S / 2 ^ k : Nat) : Int) := by simp
  have hle : S / 2 ^ k ≤ S := Nat.div_le_self _ _
  have := i64_and_nat (S / 2 ^ k) 1 (by omega) (by omega)
  unfold Venn.bitI
  rw [e]
  rw [show ((1 : Nat) : Int) = 1 from rfl] at this
  rw [this, Nat.and_one_is_mod]
  simp
theorem bits01 : ∀ a b : Fin 2, bits .andNot .i64 (a.val : Int) (b.val : Int) = Venn.timesV 1 a.val b.val ∧ bits .xor .i64 (a.val : Int) (b.val : Int) = Venn.timesV 2 a.val b.val := by decide +kernel
theorem bits01' {a b : Int} (ha : a = 0 ∨ a = 1) (hb : b = 0 ∨ b = 1) : bits .andNot .i64 a b = Venn.timesV 1 a b ∧ bits .xor .i64 a b = Venn.timesV 2 a b := by
  rcases ha with rfl | rfl <;> rcases hb with rfl | rfl
  · exact bits01 0 0
  · exact bits01 0 1
  · exact bits01 1 0
  · exact bits01 1 1

end Go.Proofs.YtlpfbdejiifbpaaDoor
