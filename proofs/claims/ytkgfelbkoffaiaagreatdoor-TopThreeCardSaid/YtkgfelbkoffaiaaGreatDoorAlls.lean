/-
  THE WALKS of worlds.All, worlds.Alike.
-/
import Derived.Test.YtkgfelbkoffaiaaGreatDoorWays
import Derived.Test.YtkgfelbkoffaiaaGreatDoorFields
import Derived.Test.YtkgfelbkoffaiaaGreatDoorLawF
namespace Venn
def allErr (u : Int) : Int := if things u = true then 0 else 1
def allV (u : Int) : Int := if things u = true then ((8 ^ u.toNat : Nat) : Int) else 0
def alikeW (w : World) : Int := if worldChk w = 0 then ways (fieldsOf w) else 0
end Venn
namespace Go.Proofs.YtkgfelbkoffaiaaGreatDoor
open Go.RowKit

theorem allC_partsA {u : Int} (hu : Venn.things u = true) {x : List Int} (hx : x ∈ Venn.allC u) : ∃ a0 a1 a2 a3 a4 a5 a6 a7, x = [a0, a1, a2, a3, a4, a5, a6, a7] ∧ (∀ y ∈ [a0, a1, a2, a3, a4, a5, a6, a7], 0 ≤ y) ∧ [a0, a1, a2, a3, a4, a5, a6, a7].sum = u := by
  obtain ⟨h8, hp, hs⟩ := (Venn.mem_allC hu x).1 hx
  match x, h8 with
  | [a0, a1, a2, a3, a4, a5, a6, a7], _ => exact ⟨a0, a1, a2, a3, a4, a5, a6, a7, rfl, hp, hs⟩
end Go.Proofs.YtkgfelbkoffaiaaGreatDoor
