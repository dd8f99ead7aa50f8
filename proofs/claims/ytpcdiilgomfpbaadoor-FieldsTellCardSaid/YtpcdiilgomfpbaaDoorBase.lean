/-
  WORDS THAT ALL WALKS SHARE: an error as a value; a slice of integers that reads as a list; what a call leaves below its own blocks.
-/
import Derived.Test.YtpcdiilgomfpbaaDoorProg
import Derived.Test.YtpcdiilgomfpbaaDoorVenn
import Derived.WalkKit
import Derived.WalkSpells
import Derived.WalkLawsBesides
import Derived.Lib.Hide
import Derived.Handy
namespace Go.Proofs.YtpcdiilgomfpbaaDoor
open Go.RowKit

/-- An error by its number: 0 is nil. -/
def errV (e : Int) : Value := if e = 0 then .nilIface else .iface 111 (.int .i64 e)
theorem errV_zero {e : Int} (h : e = 0) : errV e = .nilIface := by rw [errV, if_pos h]
theorem errV_ne {e : Int} (h : e ≠ 0) : errV e = .iface 111 (.int .i64 e) := by rw [errV, if_neg h]

/-- The call answers v, and the world is as it was. -/
def Pure (v : Value) (w : World) (e : Ending) (w' : World) : Prop := e = .returned v ∧ w = w'
/-- The call answers v; what lay before it lies as it lay. -/
def Keeps (v : Value) (w : World) (e : Ending) (w' : World) : Prop := e = .returned v ∧ Below w.heap.size w w'
theorem Pure.keeps {P : Program} {f : FuncId} {args : Array Value} {w : World} {v : Value} (h : Calls P f args w (Pure v w)) : Calls P f args w (Keeps v w) :=
  h.mono fun _ _ ⟨he, hw⟩ => ⟨he, hw ▸ Below.refl _ _⟩

theorem Below.next {a b c : World} (h : Below a.heap.size a b) (k : Below b.heap.size b c) : Below a.heap.size a c := h.trans (k.mono h.size)

theorem Below.laid {a w : World} (h : Below a.heap.size a w) (o : Obj) : Below a.heap.size a (w.alloc o) := h.alloc h.size o
theorem size_of {a b : World} (h : Below a.heap.size a b) : a.heap.size ≤ b.heap.size := h.size

/-- A call of a function that has a body: it is entered. -/
theorem callFunc_enter {P : Program} {f : FuncId} {fn : Func} {c : Code} (hf : P.funcs[f]? = some fn) (hname : (fn.name == "runtime.NumGoroutine") = false) (hb : fn.body = some c) (args : Array Value) (w : World) :
    (callFunc f args).run P w = .ok (.enter f args) w := by
  have h1 : fn.name ≠ "runtime.NumGoroutine" := by simpa using hname
  simp [callFunc, hf, h1, hb]

theorem ret_int {k : IntKind} {a b : Int} (h : a = b) : Ending.returned (.int k a) = .returned (.int k b) := by rw [h]
theorem ret_bool {a b : Bool} (h : a = b) : Ending.returned (.bool a) = .returned (.bool b) := by rw [h]

end Go.Proofs.YtpcdiilgomfpbaaDoor
