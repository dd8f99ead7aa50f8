/-
  THE PLAIN SIDE of LogClash: what was said cannot be denied.
-/
import Derived.Test.YtjnjgcibhjdmdaaGreatDoorVennP2
import Derived.Test.YtjnjgcibhjdmdaaGreatDoorLogAlone
namespace Venn
theorem allG_some : ∀ U : Fin 7, (allG 7 U.val).length ≠ 0 := by decide +kernel
theorem open_nil {u : Int} (hu : things u = true) : openV [] u = true := by
  simp only [things, Bool.and_eq_true, decide_eq_true_eq] at hu
  have h := allG_some ⟨u.toNat, by omega⟩
  have h2 : (allC u).length ≠ 0 := h
  unfold openV
  rw [List.any_eq_true]
  obtain ⟨x, hx⟩ := List.exists_mem_of_length_pos (Nat.pos_of_ne_zero h2)
  exact ⟨x, hx, rfl⟩
theorem open_clash {a : Atom} (h : formChk (aloneF a true) = 0) (u : Int) : openV ([aloneF a true] ++ [aloneF a false]) u = false := by
  unfold openV
  rw [List.any_eq_false]
  intro x _
  have e : formTrue (aloneF a false) (made x) = !formTrue (aloneF a true) (made x) := negF_true h (made x)
  unfold formsTrue
  rw [List.cons_append, List.nil_append, List.all_cons, List.all_cons, List.all_nil, e]
  cases formTrue (aloneF a true) (made x) <;> simp
theorem open_same (a : Atom) (u : Int) : openV ([aloneF a true] ++ [aloneF a true]) u = openV ([] ++ [aloneF a true]) u := by
  unfold openV
  congr 1
  funext x
  unfold formsTrue
  simp only [List.cons_append, List.nil_append, List.all_cons, List.all_nil]
  cases formTrue (aloneF a true) (made x) <;> rfl
end Venn
