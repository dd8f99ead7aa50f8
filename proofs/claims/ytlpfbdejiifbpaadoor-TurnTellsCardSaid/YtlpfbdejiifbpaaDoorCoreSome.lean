/-
  THE WALKS of core.Some and core.Open.
-/
import Derived.Test.YtlpfbdejiifbpaaDoorCore
import Derived.Test.YtlpfbdejiifbpaaDoorFitFirst
import Derived.Test.YtlpfbdejiifbpaaDoorVennP2
import Derived.BigQuiet
namespace Go.Proofs.YtlpfbdejiifbpaaDoor
open Go.RowKit Go.Shelf
theorem forms_slice {w : World} {v : Value} {l : List Venn.Form} (h : IsForms w v l) : ∃ A c, v = .slice A l.length c := let ⟨A, c, e, _⟩ := h; ⟨A, c, e⟩
def openVv (ls : List Venn.Form) (u : Int) : Value := .tuple #[.bool (Venn.openR ls u), errV (Venn.coreChk ls u)]
theorem openVv_ok {ls : List Venn.Form} {u : Int} {b : Bool} (h : Venn.coreChk ls u = 0) (hb : Venn.openV ls u = b) : openVv ls u = .tuple #[.bool b, .nilIface] := by rw [openVv, Venn.openR, if_pos h, h, hb]; rfl
theorem openVv_bad {ls : List Venn.Form} {u : Int} (h : Venn.coreChk ls u ≠ 0) : openVv ls u = .tuple #[.bool false, .iface 58 (.int .i64 (Venn.coreChk ls u))] := by rw [openVv, Venn.openR, if_neg h, errV_ne h]
end Go.Proofs.YtlpfbdejiifbpaaDoor
