/-
  THE WALK of form.Negate.
-/
import Derived.Test.YtjnjgcibhjdmdaaGreatDoorSpanG
import Derived.Test.YtjnjgcibhjdmdaaGreatDoorVennP1
namespace Go.Proofs.YtjnjgcibhjdmdaaGreatDoor
open Go.RowKit

/-- A formula as a call's result. -/
def FormPost (f : Venn.Form) (chk : Int) (w : World) (e : Ending) (w' : World) : Prop :=
  ∃ A kA C kC, e = .returned (.tuple #[.agg #[.slice A f.atoms.length kA, .slice C f.code.length kC], errV chk]) ∧ Below w.heap.size w w' ∧ IsAtoms w' (.slice A f.atoms.length kA) f.atoms ∧ IsInts w' (.slice C f.code.length kC) f.code
def noForm : Venn.Form := ⟨[], []⟩
def negV (f : Venn.Form) : Venn.Form := if Venn.negChk f = 0 then Venn.negF f else noForm
theorem FormPost.none {chk : Int} {w w' : World} (h : Below w.heap.size w w') : FormPost noForm chk w (.returned (.tuple #[.agg #[.slice none 0 0, .slice none 0 0], errV chk])) w' :=
  ⟨Option.none, 0, Option.none, 0, rfl, h, IsAtoms.nil _, IsIntsNil _⟩

end Go.Proofs.YtjnjgcibhjdmdaaGreatDoor
