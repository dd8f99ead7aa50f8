/-
  PLAIN LAWS of sets. No program in sight.
-/
import Derived.Test.YtpcdiilgomfpbaaDoorVenn
namespace Venn

theorem setChk_iff {u s : Int} : setChk u s = 0 ↔ (0 ≤ u ∧ u ≤ 6) ∧ 0 ≤ s ∧ s.toNat < 2 ^ u.toNat := by
  have hp : 0 < 2 ^ u.toNat := Nat.two_pow_pos _
  unfold setChk things rightS allS
  constructor
  · intro h
    split at h
    · rename_i hh
      simp only [Bool.and_eq_true, decide_eq_true_eq] at hh
      exact ⟨hh.1, hh.2.1, by omega⟩
    · simp at h
  · rintro ⟨⟨h1, h2⟩, h3, h4⟩
    rw [if_pos]
    simp only [Bool.and_eq_true, decide_eq_true_eq]
    exact ⟨⟨h1, h2⟩, h3, by omega⟩

theorem andNot_lt {a b n : Nat} (h : a < 2 ^ n) : andNot a b < 2 ^ n :=
  Nat.xor_lt_two_pow h (Nat.lt_of_le_of_lt Nat.and_le_left h)

/-- What is done to right sets is a right set. -/
theorem setOf_right {what u a b : Int} (ha : setChk u a = 0) (hb : setChk u b = 0) : setChk u (setOf what u a b) = 0 := by
  obtain ⟨hu, ha0, ha1⟩ := setChk_iff.1 ha
  obtain ⟨_, hb0, hb1⟩ := setChk_iff.1 hb
  have hp : 0 < 2 ^ u.toNat := Nat.two_pow_pos _
  unfold setOf
  split
  · exact setChk_iff.2 ⟨hu, by omega, by simpa using Nat.or_lt_two_pow ha1 hb1⟩
  split
  · exact setChk_iff.2 ⟨hu, by omega, by simpa using Nat.lt_of_le_of_lt Nat.and_le_left ha1⟩
  split
  · exact setChk_iff.2 ⟨hu, by omega, by simpa using andNot_lt ha1⟩
  · exact setChk_iff.2 ⟨hu, by omega, by rw [Int.toNat_natCast]; exact andNot_lt (by unfold allS; omega)⟩

theorem many_le (s : Int) : 0 ≤ many s ∧ many s ≤ 6 := by
  unfold many
  have := List.length_filter_le (fun i => bit s i) (List.range 6)
  simp at this
  omega

theorem small_of {u s : Int} (h : setChk u s = 0) : ∃ (U : Fin 7) (S : Fin 64), u = ((U.val : Nat) : Int) ∧ s = ((S.val : Nat) : Int) := by
  obtain ⟨hu, h0, h1⟩ := setChk_iff.1 h
  have : 2 ^ u.toNat ≤ 2 ^ 6 := Nat.pow_le_pow_right (by omega) (by omega)
  exact ⟨⟨u.toNat, by omega⟩, ⟨s.toNat, by omega⟩, by simp; omega, by simp; omega⟩

/-! ### terms -/
theorem worldChk_iff {w : World} : worldChk w = 0 ↔ things w.things = true ∧ setChk w.things w.a = 0 ∧ setChk w.things w.b = 0 ∧ setChk w.things w.c = 0 := by
  unfold worldChk
  constructor
  · intro h
    split at h
    · split at h
      · split at h
        · exact ⟨‹_›, ‹_›, ‹_›, h⟩
        · simp at h
      · simp at h
    · simp at h
  · rintro ⟨h1, h2, h3, h4⟩
    rw [if_pos h1, if_pos h2, if_pos h3, h4]
theorem setChk_zero {u : Int} (h : things u = true) : setChk u 0 = 0 := by
  have h' : 0 ≤ u ∧ u ≤ 6 := by simpa [things] using h
  exact setChk_iff.2 ⟨h', by omega, Nat.two_pow_pos _⟩
theorem setChk_all {u : Int} (h : things u = true) : setChk u (allS u) = 0 := by
  have h' : 0 ≤ u ∧ u ≤ 6 := by simpa [things] using h
  have hp : 0 < 2 ^ u.toNat := Nat.two_pow_pos _
  exact setChk_iff.2 ⟨h', by unfold allS; omega, by unfold allS; omega⟩
def Right (u : Int) (st : List Int) : Prop := ∀ x ∈ st, setChk u x = 0
theorem has_right {w : World} (hw : worldChk w = 0) (k : Int) : setChk w.things (w.has k) = 0 := by
  obtain ⟨_, h2, h3, h4⟩ := worldChk_iff.1 hw
  unfold World.has
  split
  · exact h2
  split
  · exact h3
  · exact h4
theorem setStep_right {w : World} (hw : worldChk w = 0) {st : List Int} (hst : Right w.things st) (s : Int) : Right w.things (setStep w st s) := by
  have ht := (worldChk_iff.1 hw).1
  unfold setStep
  split
  · intro x hx; rcases List.mem_cons.1 hx with rfl | hx; exact has_right hw s; exact hst x hx
  split
  · intro x hx; rcases List.mem_cons.1 hx with rfl | hx; exact setChk_zero ht; exact hst x hx
  split
  · intro x hx; rcases List.mem_cons.1 hx with rfl | hx; exact setChk_all ht; exact hst x hx
  split
  · split
    · rename_i y r
      intro x hx
      rcases List.mem_cons.1 hx with rfl | hx
      · exact setOf_right (hst y (by simp)) (setChk_zero ht)
      · exact hst x (by simp [hx])
    · intro x hx; simp at hx
  · split
    · rename_i y x' r
      intro x hx
      rcases List.mem_cons.1 hx with rfl | hx
      · exact setOf_right (hst x' (by simp)) (hst y (by simp))
      · exact hst x (by simp [hx])
    · rename_i hno
      exact hst
theorem shape_step {m : Int} {x : Int} {r : List Int} (h : shapeGo m (x :: r) = 0) : takes x ≤ m ∧ shapeGo (m + (1 - takes x)) r = 0 := by
  unfold shapeGo at h
  split at h
  · simp at h
  · exact ⟨by omega, h⟩
theorem setStep_length {w : World} {st : List Int} {x : Int} (hx : 0 ≤ x ∧ x ≤ 8) (h : takes x ≤ (st.length : Int)) : ((setStep w st x).length : Int) = st.length + (1 - takes x) := by
  by_cases h3 : x < 3
  · have h8 : ¬ x = 8 := by omega
    have h5 : ¬ 5 ≤ x := by omega
    simp [setStep, takes, h3, h8, h5]
  by_cases h3' : x = 3
  · subst h3'; simp [setStep, takes]
  by_cases h4 : x = 4
  · subst h4; simp [setStep, takes]
  by_cases h8 : x = 8
  · subst h8
    match st, h with
    | [], h => simp [takes] at h
    | y :: r, _ => simp [setStep, takes]
  have h5 : 5 ≤ x := by omega
  match st, h with
  | [], h => simp [takes, h8, h5] at h
  | [_], h => simp [takes, h8, h5] at h
  | y :: z :: r, _ => simp [setStep, takes, h3, h3', h4, h8, h5]; omega
theorem sum_nonneg : ∀ (l : List Int), (∀ x ∈ l, 0 ≤ x) → 0 ≤ l.sum
  | [], _ => by simp
  | x :: r, h => by
    have h1 := h x (by simp)
    have h2 := sum_nonneg r fun y hy => h y (by simp [hy])
    simp only [List.sum_cons]
    omega
end Venn
