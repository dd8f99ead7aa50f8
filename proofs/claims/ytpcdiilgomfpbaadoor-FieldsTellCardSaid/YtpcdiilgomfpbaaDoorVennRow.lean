/-
  THE PLAIN SIDE of rows.
-/
import Derived.Test.YtpcdiilgomfpbaaDoorVennAtom
namespace Venn
/-- Bit f of a mask, as a number. -/
def bitI (s : Int) (f : Nat) : Int := s / 2 ^ f % 2
def timesV (what a b : Int) : Int :=
  if what = 1 then a * (1 - b) else if what = 2 then a + b - 2 * (a * b) else if what = 3 then -a else if what = 4 then a else if what = 5 then a - b else 0
def timesAt (what s t : Int) (f : Nat) : Int := timesV what (bitI s f) (bitI t f)
theorem bitI_01 (s : Int) (f : Nat) : bitI s f = 0 ∨ bitI s f = 1 := by unfold bitI; omega
end Venn
namespace Venn
theorem timesAt_range (what s t : Int) (f : Nat) : -1 ≤ timesAt what s t f ∧ timesAt what s t f ≤ 1 := by
  unfold timesAt timesV
  rcases bitI_01 s f with h | h <;> rcases bitI_01 t f with h' | h' <;> rw [h, h'] <;> (repeat' split) <;> omega
def tMask (a : Atom) : Int := if a.t = [] then 0 else mask a.t
def rowT (a : Atom) (h : Bool) (f : Nat) : Int := if h = true then timesAt a.what (mask a.s) (tMask a) f else -timesAt a.what (mask a.s) (tMask a) f
def rowM (a : Atom) (h : Bool) : Int := if h = true then (if a.what = 3 then -a.n else a.n) else -(if a.what = 3 then -a.n else a.n) - 1
end Venn
