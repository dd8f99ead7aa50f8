/-
  THE WALKS of rows.Row, rows.Of.
-/
import Derived.Test.YtlpfbdejiifbpaaDoorRowTimes
import Derived.Test.YtlpfbdejiifbpaaDoorSetsT
import Derived.Test.YtlpfbdejiifbpaaDoorAtomT
import Derived.Deep.RegionHeld3
import Derived.Deep.DeepCutAuto
namespace Go.Proofs.YtlpfbdejiifbpaaDoor
open Go.RowKit

theorem Blk.cells9 {w : World} {g : Nat} {t : TypeId} {x0 x1 x2 x3 x4 x5 x6 x7 x8 : Value} (h : Blk w g t #[x0, x1, x2, x3, x4, x5, x6, x7, x8]) :
    (w.cell? ⟨g, 0, none⟩ = some x0 ∧ w.cell? ⟨g, 1, none⟩ = some x1 ∧ w.cell? ⟨g, 2, none⟩ = some x2 ∧ w.cell? ⟨g, 3, none⟩ = some x3 ∧ w.cell? ⟨g, 4, none⟩ = some x4 ∧ w.cell? ⟨g, 5, none⟩ = some x5 ∧ w.cell? ⟨g, 6, none⟩ = some x6 ∧ w.cell? ⟨g, 7, none⟩ = some x7 ∧ w.cell? ⟨g, 8, none⟩ = some x8) ∧
    (w.frozen? ⟨g, 0, none⟩ = false ∧ w.frozen? ⟨g, 1, none⟩ = false ∧ w.frozen? ⟨g, 2, none⟩ = false ∧ w.frozen? ⟨g, 3, none⟩ = false ∧ w.frozen? ⟨g, 4, none⟩ = false ∧ w.frozen? ⟨g, 5, none⟩ = false ∧ w.frozen? ⟨g, 6, none⟩ = false ∧ w.frozen? ⟨g, 7, none⟩ = false ∧ w.frozen? ⟨g, 8, none⟩ = false) :=
  ⟨⟨h.cell 0, h.cell 1, h.cell 2, h.cell 3, h.cell 4, h.cell 5, h.cell 6, h.cell 7, h.cell 8⟩, h.frozen 0, h.frozen 1, h.frozen 2, h.frozen 3, h.frozen 4, h.frozen 5, h.frozen 6, h.frozen 7, h.frozen 8⟩
theorem below_set9 {B : Nat} {a w : World} (h : Below B a w) {g : Nat} (hg : B ≤ g) (x0 x1 x2 x3 x4 x5 x6 x7 x8 : Value) :
    Below B a (((((((((w.setCell ⟨g, 0, none⟩ x0).setCell ⟨g, 1, none⟩ x1).setCell ⟨g, 2, none⟩ x2).setCell ⟨g, 3, none⟩ x3).setCell ⟨g, 4, none⟩ x4).setCell ⟨g, 5, none⟩ x5).setCell ⟨g, 6, none⟩ x6).setCell ⟨g, 7, none⟩ x7).setCell ⟨g, 8, none⟩ x8) :=
  (below_set8 h hg x0 x1 x2 x3 x4 x5 x6 x7).setCell (p := ⟨g, 8, none⟩) hg _
/-- A new row's nine cells. -/
abbrev zero9 : Array Value := #[.int .i64 0, .int .i64 0, .int .i64 0, .int .i64 0, .int .i64 0, .int .i64 0, .int .i64 0, .int .i64 0, .int .i64 0]
abbrev row9 (what m tm n : Int) : Array Value := #[.int .i64 (Venn.timesAt what m tm 0), .int .i64 (Venn.timesAt what m tm 1), .int .i64 (Venn.timesAt what m tm 2), .int .i64 (Venn.timesAt what m tm 3), .int .i64 (Venn.timesAt what m tm 4), .int .i64 (Venn.timesAt what m tm 5), .int .i64 (Venn.timesAt what m tm 6), .int .i64 (Venn.timesAt what m tm 7), .int .i64 n]

theorem Blk.far9 {w : World} {g : Nat} {t : TypeId} {cs : Array Value} (h : Blk w g t cs) {p : Nat} (hp : g ≠ p) (x0 x1 x2 x3 x4 x5 x6 x7 x8 : Value) :
    Blk (((((((((w.setCell ⟨p, 0, none⟩ x0).setCell ⟨p, 1, none⟩ x1).setCell ⟨p, 2, none⟩ x2).setCell ⟨p, 3, none⟩ x3).setCell ⟨p, 4, none⟩ x4).setCell ⟨p, 5, none⟩ x5).setCell ⟨p, 6, none⟩ x6).setCell ⟨p, 7, none⟩ x7).setCell ⟨p, 8, none⟩ x8) g t cs :=
  ((((((((h.far (p := ⟨p, 0, none⟩) hp _).far (p := ⟨p, 1, none⟩) hp _).far (p := ⟨p, 2, none⟩) hp _).far (p := ⟨p, 3, none⟩) hp _).far (p := ⟨p, 4, none⟩) hp _).far (p := ⟨p, 5, none⟩) hp _).far (p := ⟨p, 6, none⟩) hp _).far (p := ⟨p, 7, none⟩) hp _).far (p := ⟨p, 8, none⟩) hp _
theorem Blk.set9 {w : World} {g : Nat} {t : TypeId} {y0 y1 y2 y3 y4 y5 y6 y7 y8 : Value} (h : Blk w g t #[y0, y1, y2, y3, y4, y5, y6, y7, y8]) (x0 x1 x2 x3 x4 x5 x6 x7 x8 : Value) :
    Blk (((((((((w.setCell ⟨g, 0, none⟩ x0).setCell ⟨g, 1, none⟩ x1).setCell ⟨g, 2, none⟩ x2).setCell ⟨g, 3, none⟩ x3).setCell ⟨g, 4, none⟩ x4).setCell ⟨g, 5, none⟩ x5).setCell ⟨g, 6, none⟩ x6).setCell ⟨g, 7, none⟩ x7).setCell ⟨g, 8, none⟩ x8) g t #[x0, x1, x2, x3, x4, x5, x6, x7, x8] := by
  have := ((((((((h.set_ 0 x0).set_ 1 x1).set_ 2 x2).set_ 3 x3).set_ 4 x4).set_ 5 x5).set_ 6 x6).set_ 7 x7).set_ 8 x8
  have e : ((((((((#[y0, y1, y2, y3, y4, y5, y6, y7, y8].setIfInBounds 0 x0).setIfInBounds 1 x1).setIfInBounds 2 x2).setIfInBounds 3 x3).setIfInBounds 4 x4).setIfInBounds 5 x5).setIfInBounds 6 x6).setIfInBounds 7 x7).setIfInBounds 8 x8 = #[x0, x1, x2, x3, x4, x5, x6, x7, x8] := by simp
  rw [e] at this
  exact this
def negC (x : Nat → Int) (m : Int) (k : Nat) : Array Value := #[.int .i64 (if 0 < k then -x 0 else x 0), .int .i64 (if 1 < k then -x 1 else x 1), .int .i64 (if 2 < k then -x 2 else x 2), .int .i64 (if 3 < k then -x 3 else x 3), .int .i64 (if 4 < k then -x 4 else x 4), .int .i64 (if 5 < k then -x 5 else x 5), .int .i64 (if 6 < k then -x 6 else x 6), .int .i64 (if 7 < k then -x 7 else x 7), .int .i64 m]
theorem negC_at (x : Nat → Int) (m : Int) (k : Nat) (hk : k < 8) : (negC x m k)[k]? = some (.int .i64 (x k)) := by
  rcases (by omega : k = 0 ∨ k = 1 ∨ k = 2 ∨ k = 3 ∨ k = 4 ∨ k = 5 ∨ k = 6 ∨ k = 7) with rfl | rfl | rfl | rfl | rfl | rfl | rfl | rfl
  all_goals simp [negC]
theorem negC_set (x : Nat → Int) (m : Int) (k : Nat) (hk : k < 8) : (negC x m k).setIfInBounds k (.int .i64 (-x k)) = negC x m (k + 1) := by
  rcases (by omega : k = 0 ∨ k = 1 ∨ k = 2 ∨ k = 3 ∨ k = 4 ∨ k = 5 ∨ k = 6 ∨ k = 7) with rfl | rfl | rfl | rfl | rfl | rfl | rfl | rfl
  all_goals simp [negC]
theorem negC_8 (x : Nat → Int) (m : Int) : negC x m 8 = #[.int .i64 (-x 0), .int .i64 (-x 1), .int .i64 (-x 2), .int .i64 (-x 3), .int .i64 (-x 4), .int .i64 (-x 5), .int .i64 (-x 6), .int .i64 (-x 7), .int .i64 m] := by
  simp [negC]
theorem negC_0 (what m tm n : Int) : row9 what m tm n = negC (Venn.timesAt what m tm) n 0 := by
  simp [negC]
/-- A row as a value. -/
def rowV (a : Venn.Atom) (h : Bool) : Value := .agg #[.int .i64 (Venn.rowT a h 0), .int .i64 (Venn.rowT a h 1), .int .i64 (Venn.rowT a h 2), .int .i64 (Venn.rowT a h 3), .int .i64 (Venn.rowT a h 4), .int .i64 (Venn.rowT a h 5), .int .i64 (Venn.rowT a h 6), .int .i64 (Venn.rowT a h 7), .int .i64 (Venn.rowM a h)]
end Go.Proofs.YtlpfbdejiifbpaaDoor
