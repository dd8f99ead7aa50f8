/-
  ARGUMENTS OPENED: an array of three integers.
-/
import Derived.Test.YtcbjmfljdmomhaaDoorLawF
namespace Go.Proofs.YtcbjmfljdmomhaaDoor
open Go.ChangeShapes Go.WideShapes Go.ChangeAt Go.RowKit Go.Deep

theorem open_three_of {H : Type} {enc : TypeId × Value → H} {P : Program} {w : World} {base b0 : Nat} {spare : Nat → Bool} {held : Bool} {r : Reach} {v : Value} {d : DataW H} {ps : List MemPlace} {ta ti : TypeId} (hta : P.underlying ta = some (.array 3 ti)) (hti : P.underlying ti = some (.int .i64)) (c1 : P.cellsOf ti = 1) (c3 : P.cellsOf ta = 3)
    (hok : Value.okWide P w r b0 ta v) (h : DataW.Trod enc P w base spare held ta v d ps) :
    ∃ n0 n1 n2 : Int, v = .agg #[.int .i64 n0, .int .i64 n1, .int .i64 n2] ∧ (∀ x ∈ [n0, n1, n2], (Lit.int .i64 x).wf = true) := by
  obtain ⟨cs, rfl, hsz⟩ := okWide_array hta hok
  obtain ⟨fuel, hf⟩ := h
  obtain ⟨l, hl, e1, w1⟩ := trod_intsArr hta hti c1 c3 hf
  obtain ⟨xs⟩ := cs
  match l, hl, e1, w1 with
  | [n0, n1, n2], _, e1, w1 =>
    refine ⟨n0, n1, n2, ?_, w1⟩
    simp [Value.cells] at e1
    simp [e1]
set_option maxRecDepth 100000 in
theorem open_three {H : Type} {enc : TypeId × Value → H} {w : World} {base b0 : Nat} {spare : Nat → Bool} {held : Bool} {r : Reach} {v : Value} {d : DataW H} {ps : List MemPlace} (hok : Value.okWide Tryd.prog w r b0 23 v) (h : DataW.Trod enc Tryd.prog w base spare held 23 v d ps) :
    ∃ n0 n1 n2 : Int, v = .agg #[.int .i64 n0, .int .i64 n1, .int .i64 n2] ∧ (∀ x ∈ [n0, n1, n2], (Lit.int .i64 x).wf = true) :=
  open_three_of Tryd.underlying23 Tryd.underlying3 cellsInt cells3 hok h
end Go.Proofs.YtcbjmfljdmomhaaDoor
