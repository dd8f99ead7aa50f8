/-
  THE WALKS of package alike.
-/
import Derived.Test.YtlpfbdejiifbpaaGreatDoorSetsT
import Derived.Test.YtlpfbdejiifbpaaGreatDoorMem
import Derived.Test.YtlpfbdejiifbpaaGreatDoorVennP1
namespace Go.Proofs.YtlpfbdejiifbpaaGreatDoor
open Go.RowKit

theorem masks_andNot (s t : List Int) : bits .andNot .i64 (Venn.mask s) (Venn.mask t) = ((Venn.andNot (Venn.mask s).toNat (Venn.mask t).toNat : Nat) : Int) := by
  have h1 := Venn.mask_range s
  have h2 := Venn.mask_range t
  have := i64_andNot_nat (Venn.mask s).toNat (Venn.mask t).toNat (by omega) (by omega)
  rwa [Int.toNat_of_nonneg h1.1, Int.toNat_of_nonneg h2.1] at this
theorem masks_and (s t : List Int) : bits .and .i64 (Venn.mask s) (Venn.mask t) = (((Venn.mask s).toNat &&& (Venn.mask t).toNat : Nat) : Int) := by
  have h1 := Venn.mask_range s
  have h2 := Venn.mask_range t
  have := i64_and_nat (Venn.mask s).toNat (Venn.mask t).toNat (by omega) (by omega)
  rwa [Int.toNat_of_nonneg h1.1, Int.toNat_of_nonneg h2.1] at this

end Go.Proofs.YtlpfbdejiifbpaaGreatDoor
