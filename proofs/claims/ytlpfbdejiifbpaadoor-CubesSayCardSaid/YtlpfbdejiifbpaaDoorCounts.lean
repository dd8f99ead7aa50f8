/-
  THE WALKS of fields.Check and fit.after.
-/
import Derived.Test.YtlpfbdejiifbpaaDoorVennP1
import Derived.Test.YtlpfbdejiifbpaaDoorSetsT
namespace Go.Proofs.YtlpfbdejiifbpaaDoor
open Go.RowKit

theorem things_parts {u : Int} (h : Venn.things u = true) : 0 ≤ u ∧ u ≤ 6 := by simpa [Venn.things] using h
theorem things_of {u : Int} (h0 : 0 ≤ u) (h1 : u ≤ 6) : Venn.things u = true := by simp [Venn.things, h0, h1]

/-- What fit.after gives: counts, and whether there were any. -/
def afterV (n : List Int) : Value := match Venn.afterC n with
  | some m => .tuple #[.agg (m.map (Value.int .i64)).toArray, .bool true]
  | none => .tuple #[.agg (n.map (Value.int .i64)).toArray, .bool false]
end Go.Proofs.YtlpfbdejiifbpaaDoor
