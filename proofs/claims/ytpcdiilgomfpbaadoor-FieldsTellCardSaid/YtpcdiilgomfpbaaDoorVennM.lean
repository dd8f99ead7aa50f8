/-
  PLAIN LAWS of masks: a term is a right set; what it is in a world of one thing is 1 or 0.
-/
import Derived.Test.YtpcdiilgomfpbaaDoorVennL
namespace Venn
theorem foldl_right {w : World} (hw : worldChk w = 0) : ∀ (t : List Int) (st : List Int), Right w.things st → Right w.things (t.foldl (setStep w) st)
  | [], _, h => h
  | s :: r, _, h => foldl_right hw r _ (setStep_right hw h s)
theorem termSet_right {w : World} (hw : worldChk w = 0) (t : List Int) : setChk w.things (termSet t w) = 0 := by
  have h := foldl_right hw t [] (fun x hx => by simp at hx)
  unfold termSet
  cases hc : t.foldl (setStep w) [] with
  | nil => exact setChk_zero (worldChk_iff.1 hw).1
  | cons x r => exact h x (by rw [hc]; simp)
theorem one_right (f : Nat) : worldChk ⟨1, (f % 2 : Nat), (f / 2 % 2 : Nat), (f / 4 % 2 : Nat)⟩ = 0 := by
  have h1 : f % 2 < 2 := Nat.mod_lt _ (by omega)
  have h2 : f / 2 % 2 < 2 := Nat.mod_lt _ (by omega)
  have h3 : f / 4 % 2 < 2 := Nat.mod_lt _ (by omega)
  refine worldChk_iff.2 ⟨show things 1 = true by decide, ?_, ?_, ?_⟩ <;> exact setChk_iff.2 ⟨by simp, by simp; omega, by simp; omega⟩
theorem lies_01 (t : List Int) (f : Nat) : 0 ≤ lies t f ∧ lies t f ≤ 1 := by
  have h := setChk_iff.1 (termSet_right (one_right f) t)
  unfold lies
  have h2 : 0 ≤ termSet t ⟨1, (f % 2 : Nat), (f / 2 % 2 : Nat), (f / 4 % 2 : Nat)⟩ ∧ (termSet t ⟨1, (f % 2 : Nat), (f / 2 % 2 : Nat), (f / 4 % 2 : Nat)⟩).toNat < 2 := h.2
  omega
theorem maskTo_lt (t : List Int) : ∀ f, 0 ≤ maskTo t f ∧ maskTo t f < 2 ^ f
  | 0 => by simp [maskTo]
  | f + 1 => by
    have h1 := maskTo_lt t f
    have h2 := lies_01 t f
    have hp : (0 : Int) < 2 ^ f := Int.pow_pos (by omega)
    unfold maskTo
    rw [Int.pow_succ]
    rcases (by omega : lies t f = 0 ∨ lies t f = 1) with h | h <;> rw [h] <;> omega
end Venn
