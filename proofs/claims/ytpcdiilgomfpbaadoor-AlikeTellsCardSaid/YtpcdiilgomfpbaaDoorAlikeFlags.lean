/-
  FLAGS for vennlaw2.AlikeTells. (Written by gen_aliketells.py.)
-/
import Derived.Test.YtpcdiilgomfpbaaDoorRefMade
import Derived.Test.YtpcdiilgomfpbaaDoorSwap
import Derived.Test.YtpcdiilgomfpbaaDoorSame
import Derived.Test.YtpcdiilgomfpbaaDoorDoorLaw
import Derived.Test.YtpcdiilgomfpbaaDoorCore
namespace Go.Proofs.YtpcdiilgomfpbaaDoor
open Go.ChangeShapes Go.WideShapes Go.ChangeAt Go.RowKit

/-- Does a term lie in a field? -/
def lb (t : List Int) (f : Nat) : Bool := Venn.bit (Venn.lies t f) 0
def allTo (P : Nat → Bool) : Nat → Bool
  | 0 => true
  | k + 1 => allTo P k && P k
theorem allTo_iff (P : Nat → Bool) : ∀ n, allTo P n = true ↔ ∀ f, f < n → P f = true := by
  intro n
  induction n with
  | zero => simp [allTo]
  | succ n ih =>
    rw [allTo, Bool.and_eq_true, ih]
    constructor
    · rintro ⟨h1, h2⟩ f hf
      rcases Nat.lt_succ_iff_lt_or_eq.1 hf with h | rfl
      · exact h1 f h
      · exact h2
    · intro h
      exact ⟨fun f hf => h f (by omega), h n (by omega)⟩
theorem mask_testBit (t : List Int) (f : Nat) (hf : f < 8) : (Venn.mask t).toNat.testBit f = lb t f := by
  have h := Venn.bitI_mask t f hf
  have h0 := (Venn.mask_range t).1
  obtain ⟨m, hm⟩ := Int.eq_ofNat_of_zero_le h0
  unfold lb
  rw [Nat.testBit_eq_decide_div_mod_eq, hm, Int.toNat_natCast]
  unfold Venn.bitI at h
  rw [hm] at h
  have h' : ((m / 2 ^ f % 2 : Nat) : Int) = Venn.lies t f := by rw [← h]; simp
  rw [← h']
  rcases Nat.mod_two_eq_zero_or_one (m / 2 ^ f) with e | e <;> rw [e] <;> rfl
theorem mask_high (t : List Int) (f : Nat) (hf : 8 ≤ f) : (Venn.mask t).toNat.testBit f = false := by
  have h := Venn.mask_range t
  exact Nat.testBit_lt_two_pow (Nat.lt_of_lt_of_le (show (Venn.mask t).toNat < 2 ^ 8 by omega) (Nat.pow_le_pow_right (by decide) hf))
theorem same_flags {s t : List Int} (h : Venn.chk2 s t = 0) : allTo (fun f => lb s f == lb t f) 8 = Venn.sameV s t := by
  rw [Venn.sameV, decide_eq_true h, Bool.true_and]
  refine Bool.eq_iff_iff.2 ?_
  rw [allTo_iff, beq_iff_eq]
  have hs := Venn.mask_range s
  have ht := Venn.mask_range t
  constructor
  · intro h
    have : (Venn.mask s).toNat = (Venn.mask t).toNat := Nat.eq_of_testBit_eq fun f => by
      rcases Nat.lt_or_ge f 8 with hf | hf
      · rw [mask_testBit s f hf, mask_testBit t f hf]; exact beq_iff_eq.1 (h f hf)
      · rw [mask_high s f hf, mask_high t f hf]
    omega
  · intro h f hf
    rw [beq_iff_eq, ← mask_testBit s f hf, ← mask_testBit t f hf, h]
theorem part_flags {s t : List Int} (h : Venn.chk2 s t = 0) : allTo (fun f => !(lb s f && !lb t f)) 8 = Venn.partV s t := by
  rw [Venn.partV, decide_eq_true h, Bool.true_and]
  refine Bool.eq_iff_iff.2 ?_
  rw [allTo_iff, beq_iff_eq]
  constructor
  · intro h
    have : Venn.andNot (Venn.mask s).toNat (Venn.mask t).toNat = 0 := Nat.eq_of_testBit_eq fun f => by
      rw [andNot_testBit, Nat.zero_testBit]
      rcases Nat.lt_or_ge f 8 with hf | hf
      · rw [mask_testBit s f hf, mask_testBit t f hf]
        have := h f hf
        revert this
        cases lb s f <;> cases lb t f <;> decide
      · rw [mask_high s f hf]; rfl
    omega
  · intro h f hf
    have h0 : Venn.andNot (Venn.mask s).toNat (Venn.mask t).toNat = 0 := by omega
    have := andNot_testBit (Venn.mask s).toNat (Venn.mask t).toNat f
    rw [h0, Nat.zero_testBit, mask_testBit s f hf, mask_testBit t f hf] at this
    rw [← this]; rfl
theorem apart_flags {s t : List Int} (h : Venn.chk2 s t = 0) : allTo (fun f => !(lb s f && lb t f)) 8 = Venn.apartV s t := by
  rw [Venn.apartV, decide_eq_true h, Bool.true_and]
  refine Bool.eq_iff_iff.2 ?_
  rw [allTo_iff, beq_iff_eq]
  constructor
  · intro h
    have : (Venn.mask s).toNat &&& (Venn.mask t).toNat = 0 := Nat.eq_of_testBit_eq fun f => by
      rw [Nat.testBit_and, Nat.zero_testBit]
      rcases Nat.lt_or_ge f 8 with hf | hf
      · rw [mask_testBit s f hf, mask_testBit t f hf]
        have := h f hf
        revert this
        cases lb s f <;> cases lb t f <;> decide
      · rw [mask_high s f hf]; rfl
    omega
  · intro h f hf
    have h0 : (Venn.mask s).toNat &&& (Venn.mask t).toNat = 0 := by omega
    have := Nat.testBit_and (Venn.mask s).toNat (Venn.mask t).toNat f
    rw [h0, Nat.zero_testBit, mask_testBit s f hf, mask_testBit t f hf] at this
    rw [← this]; rfl
theorem flags_bad {s t : List Int} (h : ¬ Venn.chk2 s t = 0) : Venn.sameV s t = false ∧ Venn.partV s t = false ∧ Venn.apartV s t = false := by
  simp [Venn.sameV, Venn.partV, Venn.apartV, h]

end Go.Proofs.YtpcdiilgomfpbaaDoor
