/-
  THE LIBRARY's TABLE of powers of ten, of the row's list.
-/
import Derived.Test.YtjnjgcibhjdmdaaGreatDoorLawF
import Derived.Test.YtjnjgcibhjdmdaaGreatDoorStrs
import Derived.Lib.LaidTab
namespace Go.Proofs.YtjnjgcibhjdmdaaGreatDoor
open Go.RowKit

theorem globTab : Tryz.prog.globalNamed "internal/strconv.uint64pow10" = some 3 := by kernel_rfl
theorem tabT : (Tryz.prog.globals[3]?).map (·.type) = some 195 := by kernel_rfl
theorem cellsU64 : Tryz.prog.cellsOf 183 = 1 := by kernel_rfl
theorem cellsTab : Tryz.prog.cellsOf 195 = 20 := by kernel_rfl
theorem tab_of_laid {l : List (String × DataW Unit)} {W : World} (h : laidMetH Tryz.prog l W) (hm : ("internal/strconv.uint64pow10", (Rows.laid_internal_strconv_uint64pow10 : DataW Unit)) ∈ l) : TabOk W := by
  obtain ⟨ps, hlv, _, _⟩ := (laidMetH_iff.1 h).1
  obtain ⟨g, t, cs, fuel, p, e1, e2, e3, e4⟩ := laidVars_mem hlv (List.mem_filter.2 ⟨hm, by kernel_rfl⟩)
  obtain rfl := Option.some.inj (globTab.symm.trans e1)
  obtain rfl := Option.some.inj (tabT.symm.trans e2)
  have hd : (Rows.laid_internal_strconv_uint64pow10 : DataW Unit) = Lib.tabData .u64 Lib.pow10Tab := rfl
  rw [hd] at e4
  have := Lib.cells_of_tab Tryz.underlying195 Tryz.underlying183 cellsU64 cellsTab e4
  unfold TabOk Lib.TabIs
  rw [e3, ← this]
end Go.Proofs.YtjnjgcibhjdmdaaGreatDoor
