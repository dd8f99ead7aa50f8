/-
  THE DOOR's FRAME: what a row's list gives of the variables' cells.
-/
import Derived.Test.YtpcdiilgomfpbaaDoorCards
import Derived.Test.YtpcdiilgomfpbaaDoorTie
import Derived.Test.YtpcdiilgomfpbaaDoorLaw
import Derived.Test.YtpcdiilgomfpbaaDoorDoor
import Derived.Deep.DeepHandedRow
import Derived.LaidSub
import Derived.LaidMore
import Derived.LaidHandle
import Derived.SevenTiedAt
import Derived.SevenTiedPlain
namespace Go.Proofs.YtpcdiilgomfpbaaDoor
open Go.ChangeShapes Go.WideShapes Go.ChangeAt Go.RowKit

theorem globEt : Tryd.prog.globalNamed "errors.errorType" = some 1 := by kernel_rfl
theorem rtypeT : (Tryd.prog.cutTypes.find? (·.1 == "internal/reflectlite.rtype")).map (·.2) = some 188 := by kernel_rfl
theorem oneRow : ((List.range 230).filter fun t => Tryd.prog.rowNamed t [101, 114, 114, 111, 114]) = [29] := by kernel_rfl
theorem sizeTypes : Tryd.prog.types.size = 230 := by kernel_rfl
theorem et_of_laid {l : List (String × DataW Unit)} {W : World} (h : laidMetH Tryd.prog l W) (hm : ("errors.errorType", (Rows.laid_errors_errorType : DataW Unit)) ∈ l) : EtOk W := by
  have h' := (laidMetH_iff.1 h).2 _ (List.mem_filter.2 ⟨hm, by kernel_rfl⟩)
  obtain ⟨name, u, ty, e1, e2, e3, e4, e5⟩ := h'
  have en : name = [101, 114, 114, 111, 114] := (Option.some.inj e1).symm
  subst en
  obtain rfl := Option.some.inj (rtypeT.symm.trans e2)
  have hm' : ty ∈ (List.range 230).filter fun t => Tryd.prog.rowNamed t [101, 114, 114, 111, 114] := List.mem_filter.2 ⟨List.mem_range.2 (by rw [← sizeTypes]; exact e3), e4⟩
  rw [oneRow] at hm'
  obtain rfl := List.mem_singleton.1 hm'
  have hh : typeHandle Tryd.prog 29 = .pointer (some ⟨3, 29, none⟩) := by kernel_rfl
  rw [hh] at e5
  unfold EtOk
  simpa using World.var?_cell globEt e5 0

end Go.Proofs.YtpcdiilgomfpbaaDoor
