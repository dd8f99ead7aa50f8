/-
  THE PLAIN SIDE of package some.
-/
import Derived.Test.YtpcdiilgomfpbaaDoorVennForm
namespace Venn
def nameOk (n : Int) : Bool := decide (0 ≤ n) && decide (n < 3)
def World.put (w : World) (name : Int) (s : Int) : World := if name = 0 then ⟨w.things, s, w.b, w.c⟩ else if name = 1 then ⟨w.things, w.a, s, w.c⟩ else ⟨w.things, w.a, w.b, s⟩
def someChk (f : Form) (name : Int) (w : World) : Int := if formChk f = 0 then (if nameOk name = true then worldChk w else 1) else formChk f
/-- The first number from k on, of n. -/
def firstFrom (p : Nat → Bool) : Nat → Nat → Int
  | 0, _ => -1
  | n + 1, k => if p k = true then (k : Int) else firstFrom p n (k + 1)
def firstSet (f : Form) (name : Int) (w : World) (so : Bool) : Int := firstFrom (fun s => formTrue f (w.put name (s : Int)) == so) (2 ^ w.things.toNat) 0
theorem firstFrom_range (p : Nat → Bool) : ∀ (n k : Nat), (firstFrom p n k = -1 ∧ ∀ j, k ≤ j → j < k + n → p j = false) ∨ (∃ j : Nat, firstFrom p n k = j ∧ k ≤ j ∧ j < k + n ∧ p j = true) := by
  intro n
  induction n with
  | zero => intro k; exact .inl ⟨rfl, fun j h1 h2 => by omega⟩
  | succ n ih =>
    intro k
    unfold firstFrom
    by_cases h : p k = true
    · rw [if_pos h]
      exact .inr ⟨k, rfl, Nat.le_refl _, by omega, h⟩
    · rw [if_neg h]
      rcases ih (k + 1) with ⟨h1, h2⟩ | ⟨j, h1, h2, h3, h4⟩
      · refine .inl ⟨h1, fun j hj1 hj2 => ?_⟩
        rcases Nat.eq_or_lt_of_le hj1 with rfl | hlt
        · simpa using h
        · exact h2 j hlt (by omega)
      · exact .inr ⟨j, h1, by omega, by omega, h4⟩
end Venn
