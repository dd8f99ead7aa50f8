/-
  THE PLAIN SIDE of the least counts that fit.
-/
import Derived.Test.YtpcdiilgomfpbaaDoorVennFit
namespace Venn
def lexLt : List Int → List Int → Prop
  | a :: x, b :: y => a < b ∨ (a = b ∧ lexLt x y)
  | _, _ => False
theorem sorted_allG : ∀ (k u : Nat), (allG k u).Pairwise lexLt := by
  intro k
  induction k with
  | zero => intro u; exact List.pairwise_singleton _ _
  | succ k ih =>
    intro u
    rw [allG, List.pairwise_flatMap]
    refine ⟨fun j hj => ?_, ?_⟩
    · rw [List.pairwise_map]
      exact (ih (u - j)).imp fun h => .inr ⟨rfl, h⟩
    · refine List.pairwise_lt_range.imp ?_
      intro i j hij x hx y hy
      obtain ⟨x', _, rfl⟩ := List.mem_map.1 hx
      obtain ⟨y', _, rfl⟩ := List.mem_map.1 hy
      exact .inl (by omega)
theorem firstFit_split {u : Int} {l : List (List Int)} {x : List Int} (h : firstFit u l = some x) : ∃ pre rest, allC u = pre ++ x :: rest ∧ ∀ y ∈ pre, rowsSo l y = false := by
  obtain ⟨h1, pre, rest, h2, h3⟩ := List.find?_eq_some_iff_append.1 h
  exact ⟨pre, rest, h2, fun y hy => by simpa using h3 y hy⟩
/-- Nothing ahead of the first fits. -/
theorem firstFit_least {u : Int} {l : List (List Int)} {x n : List Int} (h : firstFit u l = some x) (hn : n ∈ allC u) (hs : rowsSo l n = true) : n = x ∨ lexLt x n := by
  obtain ⟨pre, rest, e, hp⟩ := firstFit_split h
  rw [e] at hn
  rcases List.mem_append.1 hn with hm | hm
  · rw [hp n hm] at hs; cases hs
  · rcases List.mem_cons.1 hm with rfl | hm
    · exact .inl rfl
    · have := sorted_allG 7 u.toNat
      rw [show allG 7 u.toNat = pre ++ x :: rest from e, List.pairwise_append] at this
      exact .inr ((List.pairwise_cons.1 this.2.1).1 n hm)
theorem many_le_all (u : Int) (l : List (List Int)) : manyFit u l ≤ manyFit u [] := by
  unfold manyFit
  have h1 : ((allC u).filter (rowsSo [])) = allC u := List.filter_eq_self.2 fun _ _ => rfl
  rw [h1]
  have := List.length_filter_le (rowsSo l) (allC u)
  omega
theorem many_snoc (u : Int) (l : List (List Int)) (r : List Int) : manyFit u (l ++ [r]) ≤ manyFit u l := by
  unfold manyFit
  have h : (allC u).filter (rowsSo (l ++ [r])) = ((allC u).filter (rowsSo l)).filter (rowsSo [r]) := by
    rw [List.filter_filter]
    congr 1
    funext x
    simp [rowsSo, Bool.and_comm]
  rw [h]
  have := List.length_filter_le (rowsSo [r]) ((allC u).filter (rowsSo l))
  omega
theorem first_many (u : Int) (l : List (List Int)) : (firstFit u l = none ∧ manyFit u l = 0) ∨ (∃ x, firstFit u l = some x ∧ 0 < manyFit u l) := by
  unfold firstFit manyFit
  cases h : (allC u).find? (rowsSo l) with
  | none =>
    have := List.find?_eq_none.1 h
    refine .inl ⟨rfl, ?_⟩
    rw [List.filter_eq_nil_iff.2 this]
    rfl
  | some x =>
    refine .inr ⟨x, rfl, ?_⟩
    have hx : x ∈ (allC u).filter (rowsSo l) := List.mem_filter.2 ⟨List.mem_of_find?_eq_some h, List.find?_some h⟩
    have := List.length_pos_of_mem hx
    omega
theorem many_two : manyFit 2 [] = 36 := by decide +kernel
def fitsChk (l : List (List Int)) (n : List Int) : Int := if rowsChk l = 0 then countsChk n else rowsChk l
def fitsV (l : List (List Int)) (n : List Int) : Bool := if fitsChk l n = 0 then rowsSo l n else false
end Venn
