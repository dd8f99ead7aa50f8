/-
  THE PLAIN SIDE of AtomBack: what is the same is part both ways; who has n or more, and n or fewer, has n. No program.
-/
import Derived.Test.YtcloppcekbdbaaaDoorVennP1
namespace Venn
theorem andNot_both : ∀ a b : Fin 64, (andNot a.val b.val = 0 ∧ andNot b.val a.val = 0) ↔ a = b := by decide +kernel
theorem holds_parts {a : Atom} {w : World} (h : holdsChk a w = 0) : atomChk a = 0 ∧ worldChk w = 0 := by
  unfold holdsChk at h
  split at h
  · exact ⟨by assumption, h⟩
  · contradiction
theorem sub_chk {p q : List Int} (hp : termChk p = 0) (hq : termChk q = 0) (x : Int) (hx : x = 1 ∨ x = 2) : atomChk ⟨x, p, q, 0⟩ = 0 := by
  rcases hx with rfl | rfl
  · unfold atomChk nChk hasT; simp [hp, hq]
  · unfold atomChk nChk hasT; simp [hp, hq]
theorem same_terms {p q : List Int} {w : World} (h : holdsChk ⟨2, p, q, 0⟩ w = 0) : termChk p = 0 ∧ termChk q = 0 ∧ worldChk w = 0 := by
  obtain ⟨h1, h2⟩ := holds_parts h
  obtain ⟨_, _, h3, h4, _⟩ := atomChk_parts h1
  exact ⟨h3, h4 rfl, h2⟩
theorem sub_ok {p q : List Int} {w : World} (hp : termChk p = 0) (hq : termChk q = 0) (hw : worldChk w = 0) : holdsChk ⟨1, p, q, 0⟩ w = 0 := by
  unfold holdsChk; rw [if_pos (sub_chk hp hq 1 (.inl rfl))]; exact hw
theorem num_ok {p : List Int} {w : World} (hp : termChk p = 0) (hw : worldChk w = 0) {n : Int} (hn : -20 ≤ n ∧ n ≤ 20) (x : Int) (hx : x = 3 ∨ x = 4) : holdsChk ⟨x, p, [], n⟩ w = 0 := by
  have : atomChk ⟨x, p, [], n⟩ = 0 := by
    rcases hx with rfl | rfl <;> unfold atomChk nChk hasT <;> simp [hp] <;> omega
  unfold holdsChk; rw [if_pos this]; exact hw
theorem set_lt {w : World} (hw : worldChk w = 0) (t : List Int) : 0 ≤ termSet t w ∧ termSet t w ≤ 63 := by
  have h := setChk_iff.1 (termSet_right hw t)
  obtain ⟨h1, h2, h3⟩ := h
  have h4 : (2 : Nat) ^ w.things.toNat ≤ 2 ^ 6 := Nat.pow_le_pow_right (by decide) (by omega)
  omega
/-- WHAT IS THE SAME IS PART BOTH WAYS. -/
theorem same_two {p q : List Int} {w : World} (h : holdsChk ⟨2, p, q, 0⟩ w = 0) : holdsV ⟨2, p, q, 0⟩ w = (holdsV ⟨1, p, q, 0⟩ w && holdsV ⟨1, q, p, 0⟩ w) := by
  obtain ⟨hp, hq, hw⟩ := same_terms h
  unfold holdsV
  rw [if_pos h, if_pos (sub_ok hp hq hw), if_pos (sub_ok hq hp hw)]
  show (termSet p w == termSet q w) = ((((andNot (termSet p w).toNat (termSet q w).toNat : Nat) : Int) == 0) && (((andNot (termSet q w).toNat (termSet p w).toNat : Nat) : Int) == 0))
  have h1 := set_lt hw p
  have h2 := set_lt hw q
  generalize termSet p w = s at h1 ⊢
  generalize termSet q w = t at h2 ⊢
  have h := andNot_both ⟨s.toNat, by omega⟩ ⟨t.toNat, by omega⟩
  simp only [Fin.mk.injEq] at h
  rw [Bool.eq_iff_iff]
  simp only [beq_iff_eq, Bool.and_eq_true]
  constructor
  · rintro rfl
    have := h.2 rfl
    omega
  · rintro ⟨a, b⟩
    have := h.1 ⟨by omega, by omega⟩
    omega
/-- WHO HAS n OR MORE, AND n OR FEWER, HAS n. -/
theorem more_fewer {p : List Int} {w : World} (hp : termChk p = 0) (hw : worldChk w = 0) {n : Int} (hn : -20 ≤ n ∧ n ≤ 20) :
    holdsV ⟨3, p, [], n⟩ w = decide (n ≤ many (termSet p w)) ∧ holdsV ⟨4, p, [], n⟩ w = decide (many (termSet p w) ≤ n) := by
  unfold holdsV
  rw [if_pos (num_ok hp hw hn 3 (.inl rfl)), if_pos (num_ok hp hw hn 4 (.inr rfl))]
  exact ⟨rfl, rfl⟩
end Venn
