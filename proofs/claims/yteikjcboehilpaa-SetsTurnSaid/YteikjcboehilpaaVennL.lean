/-
  PLAIN LAWS of sets. No program in sight.
-/
import Derived.Test.YteikjcboehilpaaVenn
namespace Venn

theorem setChk_iff {u s : Int} : setChk u s = 0 ↔ (0 ≤ u ∧ u ≤ 6) ∧ 0 ≤ s ∧ s.toNat < 2 ^ u.toNat := by
  have hp : 0 < 2 ^ u.toNat := Nat.two_pow_pos _
  unfold setChk things rightS allS
  constructor
  · intro h
    split at h
    · rename_i hh
      simp only [Bool.and_eq_true, decide_eq_true_eq] at hh
      exact ⟨hh.1, hh.2.1, by omega⟩
    · simp at h
  · rintro ⟨⟨h1, h2⟩, h3, h4⟩
    rw [if_pos]
    simp only [Bool.and_eq_true, decide_eq_true_eq]
    exact ⟨⟨h1, h2⟩, h3, by omega⟩

theorem andNot_lt {a b n : Nat} (h : a < 2 ^ n) : andNot a b < 2 ^ n :=
  Nat.xor_lt_two_pow h (Nat.lt_of_le_of_lt Nat.and_le_left h)

/-- What is done to right sets is a right set. -/
theorem setOf_right {what u a b : Int} (ha : setChk u a = 0) (hb : setChk u b = 0) : setChk u (setOf what u a b) = 0 := by
  obtain ⟨hu, ha0, ha1⟩ := setChk_iff.1 ha
  obtain ⟨_, hb0, hb1⟩ := setChk_iff.1 hb
  have hp : 0 < 2 ^ u.toNat := Nat.two_pow_pos _
  unfold setOf
  split
  · exact setChk_iff.2 ⟨hu, by omega, by simpa using Nat.or_lt_two_pow ha1 hb1⟩
  split
  · exact setChk_iff.2 ⟨hu, by omega, by simpa using Nat.lt_of_le_of_lt Nat.and_le_left ha1⟩
  split
  · exact setChk_iff.2 ⟨hu, by omega, by simpa using andNot_lt ha1⟩
  · exact setChk_iff.2 ⟨hu, by omega, by rw [Int.toNat_natCast]; exact andNot_lt (by unfold allS; omega)⟩

theorem many_le (s : Int) : 0 ≤ many s ∧ many s ≤ 6 := by
  unfold many
  have := List.length_filter_le (fun i => bit s i) (List.range 6)
  simp at this
  omega

theorem small_of {u s : Int} (h : setChk u s = 0) : ∃ (U : Fin 7) (S : Fin 64), u = ((U.val : Nat) : Int) ∧ s = ((S.val : Nat) : Int) := by
  obtain ⟨hu, h0, h1⟩ := setChk_iff.1 h
  have : 2 ^ u.toNat ≤ 2 ^ 6 := Nat.pow_le_pow_right (by omega) (by omega)
  exact ⟨⟨u.toNat, by omega⟩, ⟨s.toNat, by omega⟩, by simp; omega, by simp; omega⟩
end Venn
