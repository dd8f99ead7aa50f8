/-
  THE WALKS of span.Of and span.Exact.
-/
import Derived.Test.YtlpfbdejiifbpaaGreatDoorFitAll
import Derived.Test.YtlpfbdejiifbpaaGreatDoorFormTrue
import Derived.Test.YtlpfbdejiifbpaaGreatDoorSetsT
import Derived.Test.YtlpfbdejiifbpaaGreatDoorVennP2
namespace Go.Proofs.YtlpfbdejiifbpaaGreatDoor
open Go.RowKit Go.Shelf
attribute [local go_sem] Oper.semAt_some

theorem Blk.cells2 {w : World} {g : Nat} {t : TypeId} {x0 x1 : Value} (h : Blk w g t #[x0, x1]) :
    (w.cell? ⟨g, 0, none⟩ = some x0 ∧ w.cell? ⟨g, 1, none⟩ = some x1) ∧ (w.frozen? ⟨g, 0, none⟩ = false ∧ w.frozen? ⟨g, 1, none⟩ = false) :=
  ⟨⟨h.cell 0, h.cell 1⟩, h.frozen 0, h.frozen 1⟩
theorem Blk.set2 {w : World} {g : Nat} {t : TypeId} {y0 y1 : Value} (h : Blk w g t #[y0, y1]) (x0 x1 : Value) : Blk ((w.setCell ⟨g, 0, none⟩ x0).setCell ⟨g, 1, none⟩ x1) g t #[x0, x1] := by
  have := (h.set_ 0 x0).set_ 1 x1
  have e : ((#[y0, y1].setIfInBounds 0 x0).setIfInBounds 1 x1) = #[x0, x1] := by simp
  rw [e] at this
  exact this
theorem below_set2 {B : Nat} {a w : World} (h : Below B a w) {g : Nat} (hg : B ≤ g) (x0 x1 : Value) : Below B a ((w.setCell ⟨g, 0, none⟩ x0).setCell ⟨g, 1, none⟩ x1) :=
  (h.setCell (p := ⟨g, 0, none⟩) hg _).setCell (p := ⟨g, 1, none⟩) hg _
theorem blk_eq2 {w : World} {g : Nat} {t : TypeId} {a b a' b' : Int} (h : Blk w g t #[.int .i64 a, .int .i64 b]) (h1 : a = a') (h2 : b = b') : Blk w g t #[.int .i64 a', .int .i64 b'] := by rw [← h1, ← h2]; exact h
theorem below_put {B : Nat} {a W : World} (h : Below B a W) {D : Nat} (hD : B ≤ D) (o : Obj) : Below B a (W.putObj D o) :=
  ⟨h.os, h.tape, h.output, by rw [size_putObj]; exact h.size, fun k hk => (World.putObj_heap_other (by omega)).trans (h.block k hk)⟩
theorem spanChk_parts {f : Venn.Form} {t : List Int} {u : Int} (h1 : Venn.formChk f = 0) (h2 : Venn.termChk t = 0) (h3 : Venn.things u = true) :
    Venn.spanChk f t u = if (Venn.spanGo f t u (Venn.allC u)).2 < 0 then 5 else 0 := by
  rw [Venn.spanChk, if_pos h1, if_pos h2, if_pos h3]
def spanVv (f : Venn.Form) (t : List Int) (u : Int) : Value := .tuple #[.agg #[.int .i64 (Venn.spanV f t u).1, .int .i64 (Venn.spanV f t u).2], errV (Venn.spanChk f t u)]
theorem spanVv_bad {f : Venn.Form} {t : List Int} {u e : Int} (h : Venn.spanChk f t u = e) (he : e ≠ 0) : spanVv f t u = .tuple #[.agg #[.int .i64 0, .int .i64 0], .iface 73 (.int .i64 e)] := by
  rw [spanVv, Venn.spanV, if_neg (by rw [h]; exact he), h, errV_ne he]
theorem wrap1 {u : Int} (hu : Venn.things u = true) : IntKind.i64.wrap (u + 1) = u + 1 := by
  simp only [Venn.things, Bool.and_eq_true, decide_eq_true_eq] at hu
  exact IntWalk.i64_in _ (by omega)

def exactVv (f : Venn.Form) (t : List Int) (u : Int) : Value := .tuple #[.int .i64 (Venn.exactV f t u), errV (Venn.exactChk f t u)]
end Go.Proofs.YtlpfbdejiifbpaaGreatDoor
