/-
  THE WALKS of the reference's Made and Lies.
-/
import Derived.Test.YtlpfbdejiifbpaaDoorRefTerm
import Derived.Test.YtlpfbdejiifbpaaDoorFitFirst
import Derived.Test.YtlpfbdejiifbpaaDoorVennP2
import Derived.StillTailTactics
namespace Go.Proofs.YtlpfbdejiifbpaaDoor
open Go.RowKit

theorem orBit_has0 : ∀ (T : Fin 6) (s : Fin 64) (f : Fin 8), Venn.setChk (T.val : Nat) (s.val : Nat) = 0 → Venn.orBit (s.val : Nat) f.val 0 (T.val : Nat) = if Venn.bit (f.val : Nat) 0 = true then ((s.val : Nat) : Int) + ((2 ^ T.val : Nat) : Int) else ((s.val : Nat) : Int) := by decide +kernel
theorem orBit_has1 : ∀ (T : Fin 6) (s : Fin 64) (f : Fin 8), Venn.setChk (T.val : Nat) (s.val : Nat) = 0 → Venn.orBit (s.val : Nat) f.val 1 (T.val : Nat) = if Venn.bit (f.val : Nat) 1 = true then ((s.val : Nat) : Int) + ((2 ^ T.val : Nat) : Int) else ((s.val : Nat) : Int) := by decide +kernel
theorem orBit_has2 : ∀ (T : Fin 6) (s : Fin 64) (f : Fin 8), Venn.setChk (T.val : Nat) (s.val : Nat) = 0 → Venn.orBit (s.val : Nat) f.val 2 (T.val : Nat) = if Venn.bit (f.val : Nat) 2 = true then ((s.val : Nat) : Int) + ((2 ^ T.val : Nat) : Int) else ((s.val : Nat) : Int) := by decide +kernel
theorem orBit_has {T f : Nat} {s : Int} (hT : T ≤ 5) (hf : f < 8) (h : Venn.setChk (T : Int) s = 0) :
    Venn.orBit s f 0 (T : Int) = (if Venn.bit (f : Int) 0 = true then s + ((2 ^ T : Nat) : Int) else s) ∧ Venn.orBit s f 1 (T : Int) = (if Venn.bit (f : Int) 1 = true then s + ((2 ^ T : Nat) : Int) else s) ∧ Venn.orBit s f 2 (T : Int) = (if Venn.bit (f : Int) 2 = true then s + ((2 ^ T : Nat) : Int) else s) := by
  obtain ⟨_, S, _, rfl⟩ := Venn.small_of h
  exact ⟨orBit_has0 ⟨T, by omega⟩ S ⟨f, hf⟩ h, orBit_has1 ⟨T, by omega⟩ S ⟨f, hf⟩ h, orBit_has2 ⟨T, by omega⟩ S ⟨f, hf⟩ h⟩

/-- The cells while the names are gone through. -/
def namesAt (T a b c a' b' c' : Int) (k : Nat) : Array Value :=
  if k = 0 then #[.int .i64 T, .int .i64 a, .int .i64 b, .int .i64 c] else if k = 1 then #[.int .i64 T, .int .i64 a', .int .i64 b, .int .i64 c] else if k = 2 then #[.int .i64 T, .int .i64 a', .int .i64 b', .int .i64 c] else #[.int .i64 T, .int .i64 a', .int .i64 b', .int .i64 c']

/-- A list of a single 1. -/
def unitL (f : Nat) : List Int := (List.replicate 8 (0 : Int)).set f 1
theorem made_unit : ∀ f : Fin 8, Venn.made (unitL f.val) = ⟨1, ((f.val % 2 : Nat) : Int), ((f.val / 2 % 2 : Nat) : Int), ((f.val / 4 % 2 : Nat) : Int)⟩ := by
  intro f
  rcases (by omega : f.val = 0 ∨ f.val = 1 ∨ f.val = 2 ∨ f.val = 3 ∨ f.val = 4 ∨ f.val = 5 ∨ f.val = 6 ∨ f.val = 7) with h | h | h | h | h | h | h | h
  all_goals rw [h]; rfl
theorem lies_bit (t : List Int) (f : Nat) : Venn.lies t f = if Venn.bit (Venn.lies t f) 0 = true then 1 else 0 := by
  rcases (by have := Venn.lies_01 t f; omega : Venn.lies t f = 0 ∨ Venn.lies t f = 1) with h | h <;> rw [h] <;> decide
end Go.Proofs.YtlpfbdejiifbpaaDoor
