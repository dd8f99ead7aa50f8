/-
  THE PLAIN SIDE of atoms.
-/
import Derived.Test.YtpcdiilgomfpbaaDoorVennA
namespace Venn
structure Atom where
  what : Int
  s : List Int
  t : List Int
  n : Int
def hasT (w : Int) : Bool := w == 1 || w == 2 || w == 5
def nChk (w n : Int) : Int := if n < -20 ∨ 20 < n ∨ (w < 3 ∧ n ≠ 0) then 1 else 0
def atomChk (a : Atom) : Int :=
  if a.what < 1 ∨ 5 < a.what then 1
  else if termChk a.s ≠ 0 then termChk a.s
  else if hasT a.what = true then (if termChk a.t ≠ 0 then termChk a.t else nChk a.what a.n)
  else if a.t = [] then nChk a.what a.n else 3
def atomTrue (a : Atom) (w : World) : Bool :=
  if a.what = 1 then (((andNot (termSet a.s w).toNat (termSet a.t w).toNat : Nat) : Int) == 0)
  else if a.what = 2 then (termSet a.s w == termSet a.t w)
  else if a.what = 3 then decide (a.n ≤ many (termSet a.s w))
  else if a.what = 4 then decide (many (termSet a.s w) ≤ a.n)
  else decide (many (termSet a.s w) ≤ many (termSet a.t w) + a.n)
def holdsChk (a : Atom) (w : World) : Int := if atomChk a = 0 then worldChk w else atomChk a
def holdsV (a : Atom) (w : World) : Bool := if holdsChk a w = 0 then atomTrue a w else false
theorem atomChk_parts {a : Atom} (h : atomChk a = 0) : 1 ≤ a.what ∧ a.what ≤ 5 ∧ termChk a.s = 0 ∧ (hasT a.what = true → termChk a.t = 0) ∧ (hasT a.what = false → a.t = []) ∧ -20 ≤ a.n ∧ a.n ≤ 20 ∧ (a.what < 3 → a.n = 0) := by
  have hn : ∀ {w n : Int}, nChk w n = 0 → -20 ≤ n ∧ n ≤ 20 ∧ (w < 3 → n = 0) := by
    intro w n h
    unfold nChk at h
    split at h
    · simp at h
    · omega
  unfold atomChk at h
  split at h
  · simp at h
  split at h
  · contradiction
  rename_i h1 h2
  have h2' : termChk a.s = 0 := by omega
  split at h
  · split at h
    · contradiction
    · rename_i h3 h4
      have := hn h
      exact ⟨by omega, by omega, h2', fun _ => by omega, fun hf => (by rw [h3] at hf; cases hf), this⟩
  · split at h
    · rename_i h3 h4
      have := hn h
      exact ⟨by omega, by omega, h2', fun hf => absurd hf h3, fun _ => h4, this⟩
    · simp at h
end Venn
