/-
  THE PLAIN SIDE of ModelMany: a name that has at least so many things.
-/
import Derived.Test.YtkgfelbkoffaiaaGreatDoorVennC
namespace Venn
def manyF (name n : Int) : Form := ⟨[⟨3, [name], [], n⟩], [0]⟩
def nameW (w : World) (name : Nat) : Int := match name with | 0 => w.a | 1 => w.b | _ => w.c
theorem none_five : modelErr ⟨[], []⟩ 1 = 5 := by decide +kernel
/-- OF A NAME THAT HAS AT LEAST SO MANY THINGS there is a model of as many, and of one fewer there is none, and its opposite has one. -/
theorem many_all : ∀ (m : Fin 3) (k : Fin 6), modelErr (manyF (m.val : Nat) ((k.val : Nat) + 1)) ((k.val : Nat) + 1) = 0 ∧ nameW (modelV (manyF (m.val : Nat) ((k.val : Nat) + 1)) ((k.val : Nat) + 1)) m.val + 1 = ((2 ^ (k.val + 1) : Nat) : Int) ∧ modelErr (manyF (m.val : Nat) ((k.val : Nat) + 1)) (k.val : Nat) = 5 ∧ sureErr (manyF (m.val : Nat) ((k.val : Nat) + 1)) (k.val : Nat) = 0 ∧ sureV (manyF (m.val : Nat) ((k.val : Nat) + 1)) (k.val : Nat) = false := by decide +kernel
def nameH (name : Int) (w : World) : Int := if name = 0 then w.a else if name = 1 then w.b else w.c
theorem many_name {name : Int} (h : name = 0 ∨ name = 1 ∨ name = 2) (k : Fin 6) : modelErr (manyF name ((k.val : Nat) + 1)) ((k.val : Nat) + 1) = 0 ∧ nameH name (modelV (manyF name ((k.val : Nat) + 1)) ((k.val : Nat) + 1)) + 1 = ((2 ^ (k.val + 1) : Nat) : Int) ∧ modelErr (manyF name ((k.val : Nat) + 1)) (k.val : Nat) = 5 ∧ sureErr (manyF name ((k.val : Nat) + 1)) (k.val : Nat) = 0 ∧ sureV (manyF name ((k.val : Nat) + 1)) (k.val : Nat) = false := by
  rcases h with rfl | rfl | rfl
  · exact many_all 0 k
  · exact many_all 1 k
  · exact many_all 2 k
end Venn
