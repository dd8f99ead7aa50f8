/-
  THE PLAIN SIDE of package turn: other names, other things.
-/
import Derived.Test.YtlpfbdejiifbpaaDoorVennP2
namespace Venn
/-- From i on each number one more. -/
def upFrom : Int → List Int → Bool
  | _, [] => true
  | i, x :: r => x == i && upFrom (i + 1) r
def sortI (l : List Int) : List Int := l.mergeSort fun x y => decide (x ≤ y)
/-- Has a list each number from 0 on just once? -/
def onceV (l : List Int) : Bool := upFrom 0 (sortI l)
theorem sortI_len (l : List Int) : (sortI l).length = l.length := List.length_mergeSort _
/-- A sign with other names. -/
def renS (a b c s : Int) : Int := if s = 0 then a else if s = 1 then b else if s = 2 then c else s
def renT (a b c : Int) (t : List Int) : List Int := t.map (renS a b c)
theorem renT_step (a b c : Int) (t : List Int) (k : Nat) (h : k < t.length) : renT a b c (t.take (k + 1)) = renT a b c (t.take k) ++ [renS a b c t[k]] := by
  unfold renT
  rw [List.take_succ_eq_append_getElem h, List.map_append]
  rfl
theorem renT_len (a b c : Int) (t : List Int) : (renT a b c t).length = t.length := by simp [renT]
def renA (a b c : Int) (x : Atom) : Atom := ⟨x.what, renT a b c x.s, renT a b c x.t, x.n⟩
def renF (a b c : Int) (f : Form) : Form := ⟨f.atoms.map (renA a b c), f.code⟩
/-- What is wrong with a formula's other names. -/
def namesErr (f : Form) (a b c : Int) : Int := if formChk f = 0 then (if onceV [a, b, c] = true then 0 else 1) else formChk f
def namesV (f : Form) (a b c : Int) : Form := if namesErr f a b c = 0 then renF a b c f else ⟨[], []⟩
end Venn
