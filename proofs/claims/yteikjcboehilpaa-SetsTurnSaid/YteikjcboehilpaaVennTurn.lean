/-
  THE PLAIN LAW of vennlaw1.SetsTurn: De Morgan, and how many.
-/
import Derived.Test.YteikjcboehilpaaVennL
namespace Venn
theorem turn_plain : ∀ (u : Fin 7) (a b : Fin 64), setChk u.val a.val = 0 → setChk u.val b.val = 0 →
    setOf 8 u.val (setOf 6 u.val a.val b.val) a.val = setOf 5 u.val (setOf 8 u.val a.val b.val) (setOf 8 u.val b.val a.val) ∧
    setOf 5 u.val (setOf 7 u.val a.val b.val) (setOf 6 u.val a.val b.val) = a.val ∧
    setOf 8 u.val (setOf 8 u.val a.val b.val) a.val = a.val ∧
    many (setOf 5 u.val a.val b.val) + many (setOf 6 u.val a.val b.val) = many a.val + many b.val := by
  decide +kernel

theorem turn_plain' {u a b : Int} (ha : setChk u a = 0) (hb : setChk u b = 0) :
    setOf 8 u (setOf 6 u a b) a = setOf 5 u (setOf 8 u a b) (setOf 8 u b a) ∧
    setOf 5 u (setOf 7 u a b) (setOf 6 u a b) = a ∧
    setOf 8 u (setOf 8 u a b) a = a ∧
    many (setOf 5 u a b) + many (setOf 6 u a b) = many a + many b := by
  obtain ⟨U, A, rfl, rfl⟩ := small_of ha
  obtain ⟨_, B, _, rfl⟩ := small_of hb
  exact turn_plain U A B ha hb

end Venn
