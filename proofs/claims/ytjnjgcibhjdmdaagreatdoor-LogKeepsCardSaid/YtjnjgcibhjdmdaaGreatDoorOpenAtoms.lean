/-
  A LAW'S ARGUMENT OF MANY ATOMS, opened.
-/
import Derived.Test.YtjnjgcibhjdmdaaGreatDoorLawF
namespace Go.Proofs.YtjnjgcibhjdmdaaGreatDoor
open Go.ChangeShapes Go.WideShapes Go.ChangeAt Go.RowKit Go.Deep
section
variable {H : Type} {enc : TypeId × Value → H} {w : World} {base b0 : Nat} {spare : Nat → Bool} {held : Bool} {r : Reach} {v : Value} {d : DataW H} {ps : List MemPlace}
set_option maxRecDepth 100000 in
theorem open_atoms (hok : Value.okWide Tryz.prog w r b0 22 v) (h : DataW.Trod enc Tryz.prog w base spare held 22 v d ps) : ∃ l : List Venn.Atom, IsAtoms w v l := by
  obtain ⟨a0, len, cap, rfl⟩ := okWide_slice Tryz.underlying22 hok
  obtain ⟨fuel, hf⟩ := h
  obtain ⟨l, u, e, hl⟩ := atoms_of_trod Tryz.underlying22 cellsAtom (fun _ _ _ h => cells_atom h) hf
  simp [Value.cells] at e
  exact ⟨l, e ▸ hl⟩
end
end Go.Proofs.YtjnjgcibhjdmdaaGreatDoor
