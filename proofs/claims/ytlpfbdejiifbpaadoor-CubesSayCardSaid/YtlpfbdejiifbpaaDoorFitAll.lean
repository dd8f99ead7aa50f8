/-
  THE WALKS of fit.All and of the iterator that it gives.
-/
import Derived.Test.YtlpfbdejiifbpaaDoorRange
import Derived.Test.YtlpfbdejiifbpaaDoorCounts
import Derived.Test.YtlpfbdejiifbpaaDoorRow
import Derived.Shelf.Abstract
import Derived.Shelf.RegionOpen
import Derived.OwnWalkIn
import Derived.TacticsInMore
import Derived.LoopNIn
import Derived.LoopIn
namespace Venn
def num : List Int → Int
  | [a0, a1, a2, a3, a4, a5, a6, a7] => a0 * 5764801 + a1 * 823543 + a2 * 117649 + a3 * 16807 + a4 * 2401 + a5 * 343 + a6 * 49 + a7 * 7
  | _ => 0
def rank (x : List Int) : Nat := (100000000 - num x).toNat
end Venn
namespace Go.Proofs.YtlpfbdejiifbpaaDoor
open Go.RowKit Go.Shelf
attribute [local go_sem] Oper.semAt_some

def intVal : Value → Int
  | .int _ i => i
  | _ => 0
/-- How many counts are left, at most. -/
def leftOf (g : Nat) (i : Value) (W : World) : Nat := match i with
  | .bool true => (match W.heap[g]? with | some (.cells cs _ _) => Venn.rank (cs.toList.map intVal) | _ => 0) + 1
  | _ => 0
theorem map_intVal : ∀ (x : List Int), List.map (intVal ∘ Value.int IntKind.i64) x = x
  | [] => rfl
  | a :: x => by rw [List.map_cons, map_intVal x]; rfl
theorem leftOf_true {g : Nat} {W : World} {t : TypeId} {x : List Int} (h : Blk W g t (x.map (Value.int .i64)).toArray) : leftOf g (.bool true) W = Venn.rank x + 1 := by
  unfold leftOf
  unfold Blk at h
  rw [h]
  simp only [List.map_map]
  have : (List.map (intVal ∘ Value.int IntKind.i64) x) = x := by
    exact map_intVal x
  rw [this]
theorem leftOf_false (g : Nat) (W : World) : leftOf g (.bool false) W = 0 := rfl

theorem Blk.set8 {w : World} {g : Nat} {t : TypeId} {y0 y1 y2 y3 y4 y5 y6 y7 : Value} (h : Blk w g t #[y0, y1, y2, y3, y4, y5, y6, y7]) (x0 x1 x2 x3 x4 x5 x6 x7 : Value) :
    Blk ((((((((w.setCell ⟨g, 0, none⟩ x0).setCell ⟨g, 1, none⟩ x1).setCell ⟨g, 2, none⟩ x2).setCell ⟨g, 3, none⟩ x3).setCell ⟨g, 4, none⟩ x4).setCell ⟨g, 5, none⟩ x5).setCell ⟨g, 6, none⟩ x6).setCell ⟨g, 7, none⟩ x7) g t #[x0, x1, x2, x3, x4, x5, x6, x7] := by
  have := (((((((h.set_ 0 x0).set_ 1 x1).set_ 2 x2).set_ 3 x3).set_ 4 x4).set_ 5 x5).set_ 6 x6).set_ 7 x7
  have e : (((((((#[y0, y1, y2, y3, y4, y5, y6, y7].setIfInBounds 0 x0).setIfInBounds 1 x1).setIfInBounds 2 x2).setIfInBounds 3 x3).setIfInBounds 4 x4).setIfInBounds 5 x5).setIfInBounds 6 x6).setIfInBounds 7 x7 = #[x0, x1, x2, x3, x4, x5, x6, x7] := by simp
  rw [e] at this
  exact this
theorem rank_after {a0 a1 a2 a3 a4 a5 a6 a7 : Int} (hp : (0 ≤ a0 ∧ a0 ≤ 6) ∧ (0 ≤ a1 ∧ a1 ≤ 6) ∧ (0 ≤ a2 ∧ a2 ≤ 6) ∧ (0 ≤ a3 ∧ a3 ≤ 6) ∧ (0 ≤ a4 ∧ a4 ≤ 6) ∧ (0 ≤ a5 ∧ a5 ≤ 6) ∧ (0 ≤ a6 ∧ a6 ≤ 6) ∧ (0 ≤ a7 ∧ a7 ≤ 6)) {y : List Int} (h : Venn.afterC [a0, a1, a2, a3, a4, a5, a6, a7] = some y) : Venn.rank y < Venn.rank [a0, a1, a2, a3, a4, a5, a6, a7] := by
  simp only [Venn.afterC] at h
  unfold Venn.rank
  repeat' split at h
  all_goals first
    | (simp only [Option.some.injEq] at h; subst h; simp only [Venn.num]; omega)
    | cases h

end Go.Proofs.YtlpfbdejiifbpaaDoor
