/-
  WORDS THAT ALL WALKS SHARE: an error as a value; a slice of integers that reads as a list; what a call leaves below its own blocks.
-/
import Derived.Test.YteikjcboehilpaaProg
import Derived.Test.YteikjcboehilpaaVenn
import Derived.WalkKit
import Derived.WalkSpells
import Derived.WalkLawsBesides
import Derived.Lib.Hide
import Derived.Handy
namespace Go.Proofs.Yteikjcboehilpaa
open Go.RowKit

/-- An error by its number: 0 is nil. -/
def errV (e : Int) : Value := if e = 0 then .nilIface else .iface 23 (.int .i64 e)
theorem errV_zero {e : Int} (h : e = 0) : errV e = .nilIface := by rw [errV, if_pos h]
theorem errV_ne {e : Int} (h : e ≠ 0) : errV e = .iface 23 (.int .i64 e) := by rw [errV, if_neg h]

/-- The call answers v, and the world is as it was. -/
def Pure (v : Value) (w : World) (e : Ending) (w' : World) : Prop := e = .returned v ∧ w = w'
/-- The call answers v; what lay before it lies as it lay. -/
def Keeps (v : Value) (w : World) (e : Ending) (w' : World) : Prop := e = .returned v ∧ Below w.heap.size w w'
theorem Pure.keeps {P : Program} {f : FuncId} {args : Array Value} {w : World} {v : Value} (h : Calls P f args w (Pure v w)) : Calls P f args w (Keeps v w) :=
  h.mono fun _ _ ⟨he, hw⟩ => ⟨he, hw ▸ Below.refl _ _⟩

theorem Below.next {a b c : World} (h : Below a.heap.size a b) (k : Below b.heap.size b c) : Below a.heap.size a c := h.trans (k.mono h.size)

theorem ret_int {k : IntKind} {a b : Int} (h : a = b) : Ending.returned (.int k a) = .returned (.int k b) := by rw [h]
theorem ret_bool {a b : Bool} (h : a = b) : Ending.returned (.bool a) = .returned (.bool b) := by rw [h]

end Go.Proofs.Yteikjcboehilpaa
