/-
  THE PLAIN SIDE of TermBack.
-/
import Derived.Test.YtcloppcekbdbaaaGreatDoorText
import Derived.Test.YtcloppcekbdbaaaGreatDoorVennP1
namespace Go.Proofs.YtcloppcekbdbaaaGreatDoor
open Go.RowKit
theorem sign_back : ∀ x : Fin 9, signOf (signByte ((x.val : Nat) : Int)) = ((x.val : Nat) : Int) := by decide +kernel
theorem byte_back : ∀ b : Fin 256, 0 ≤ signOf b.val.toUInt8 → signByte (signOf b.val.toUInt8) = b.val.toUInt8 := by decide +kernel
theorem read_text : ∀ (t : List Int), (∀ x ∈ t, 0 ≤ x ∧ x ≤ 8) → readT (textB t) = some t := by
  intro t
  induction t with
  | nil => intro _; rfl
  | cons x t ih =>
    intro h
    have hx := h x (by simp)
    have hb : signOf (signByte x) = x := by
      have := sign_back ⟨x.toNat, by omega⟩
      simp only at this
      rwa [show ((x.toNat : Nat) : Int) = x by omega] at this
    show readT (signByte x :: textB t) = _
    rw [readT, hb, if_neg (by omega), ih fun y hy => h y (List.mem_cons_of_mem _ hy)]
    rfl
theorem text_read : ∀ (s : List UInt8) (l : List Int), readT s = some l → textB l = s := by
  intro s
  induction s with
  | nil => intro l h; simp only [readT, Option.some.injEq] at h; subst h; rfl
  | cons b s ih =>
    intro l h
    rw [readT] at h
    split at h
    · cases h
    · rename_i hb
      obtain ⟨l', h1, rfl⟩ := Option.map_eq_some_iff.1 h
      have hbb : signByte (signOf b) = b := by
        have := byte_back ⟨b.toNat, b.toNat_lt⟩
        simp only [Nat.toUInt8_eq, UInt8.ofNat_toNat] at this
        exact this (by omega)
      show signByte (signOf b) :: textB l' = _
      rw [hbb, ih l' h1]
theorem parse_text {t : List Int} (h : Venn.termChk t = 0) : parseChk (textB t) = 0 ∧ parseL (textB t) = t := by
  have := read_text t (Venn.termChk_split h).2.2.1
  unfold parseChk parseL
  rw [this]
  exact ⟨h, if_pos h⟩
theorem text_parse {s : List UInt8} (h : parseChk s = 0) : Venn.termChk (parseL s) = 0 ∧ textB (parseL s) = s := by
  unfold parseChk at h
  unfold parseL
  cases hr : readT s with
  | none => rw [hr] at h; cases h
  | some l =>
    rw [hr] at h
    simp only at h ⊢
    rw [if_pos h]
    exact ⟨h, text_read s l hr⟩
end Go.Proofs.YtcloppcekbdbaaaGreatDoor
