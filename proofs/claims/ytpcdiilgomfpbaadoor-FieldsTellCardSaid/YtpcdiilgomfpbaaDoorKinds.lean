/-
  THE TABLE of atoms' kinds: its cells, out of the row's list.
-/
import Derived.Test.YtpcdiilgomfpbaaDoorMem
namespace Go.Proofs.YtpcdiilgomfpbaaDoor
open Go.RowKit

def str (l : List UInt8) : Value := .string ⟨l.toArray⟩
def kindCells : List Value := [str [], .bool false, .bool false, str [115, 117, 98], .bool true, .bool false, str [115, 97, 109, 101], .bool true, .bool false,
  str [108, 101, 97, 115, 116], .bool false, .bool true, str [109, 111, 115, 116], .bool false, .bool true, str [110, 111, 109, 111, 114, 101], .bool true, .bool true]
/-- atom.kinds holds its six rows. -/
def KindsOk (w : World) : Prop := ∀ (i : Nat) (v : Value), kindCells[i]? = some v → w.cell? ⟨0, i, none⟩ = some v
theorem KindsOk.keep {w w' : World} (h : KindsOk w) (hb : Below w.heap.size w w') : KindsOk w' := fun i v hv => cell_keep hb (h i v hv)

end Go.Proofs.YtpcdiilgomfpbaaDoor
