/-
  THE PLAIN SIDE of the reference's In and Value: a row of signs, read from its end.
-/
import Derived.Test.YtpcdiilgomfpbaaDoorVennDot
namespace Venn
/-- The stack of answers, where no sign lacks one. -/
def stepO (p : Int → Bool) (st : List Bool) (s : Int) : Option (List Bool) := if (st.length : Int) < takes s then none else some (evB p st s)
def evO (p : Int → Bool) : List Int → List Bool → Option (List Bool)
  | [], st => some st
  | s :: r, st => match stepO p st s with
    | none => none
    | some st' => evO p r st'
theorem evO_snoc (p : Int → Bool) (s : Int) : ∀ (t : List Int) (st : List Bool), evO p (t ++ [s]) st = (evO p t st).bind fun st' => stepO p st' s := by
  intro t
  induction t with
  | nil => intro st; simp only [List.nil_append, evO, Option.bind_some]; cases stepO p st s <;> rfl
  | cons x t ih =>
    intro st
    simp only [List.cons_append, evO]
    cases stepO p st x with
    | none => rfl
    | some st' => exact ih st'
theorem evB_length {p : Int → Bool} {st : List Bool} {s : Int} (hs : 0 ≤ s ∧ s ≤ 8) (h : ¬ (st.length : Int) < takes s) : ((evB p st s).length : Int) = st.length + (1 - takes s) := by
  unfold evB takes at *
  by_cases h3 : s < 3
  · rw [if_pos h3, if_neg (by omega), if_neg (by omega)]; simp
  rw [if_neg h3]
  by_cases h4 : s = 3
  · rw [if_pos h4, if_neg (by omega), if_neg (by omega)]; simp
  rw [if_neg h4]
  by_cases h5 : s = 4
  · rw [if_pos h5, if_neg (by omega), if_neg (by omega)]; simp
  rw [if_neg h5]
  by_cases h8 : s = 8
  · rw [if_pos h8, if_pos h8]
    rw [if_pos h8] at h
    match st, h with
    | [], h => simp at h
    | x :: r, _ => simp
  rw [if_neg h8, if_neg h8, if_pos (by omega)]
  rw [if_neg h8, if_pos (by omega)] at h
  match st, h with
  | [], h => simp at h
  | [x], h => simp at h
  | y :: x :: r, _ => simp; omega
theorem evO_shape (p : Int → Bool) : ∀ (t : List Int) (st : List Bool), (∀ x ∈ t, 0 ≤ x ∧ x ≤ 8) → shapeGo st.length t = 0 → evO p t st = some (t.foldl (evB p) st) ∧ (t.foldl (evB p) st).length = 1 := by
  intro t
  induction t with
  | nil =>
    intro st _ h
    simp only [shapeGo] at h
    split at h
    · exact ⟨rfl, by simp only [List.foldl_nil]; omega⟩
    · cases h
  | cons s t ih =>
    intro st hs h
    rw [shapeGo] at h
    split at h
    · cases h
    rename_i h1
    have hl := evB_length (p := p) (hs s (by simp)) h1
    have := ih (evB p st s) (fun x hx => hs x (List.mem_cons_of_mem _ hx)) (by rw [hl]; exact h)
    refine ⟨?_, this.2⟩
    simp only [evO, stepO, if_neg h1]
    exact this.1
theorem evO_term {t : List Int} (ht : termChk t = 0) (p : Int → Bool) : evO p t [] = some [evT t p] := by
  obtain ⟨h0, h12, hs, hg⟩ := termChk_parts ht
  obtain ⟨h1, h2⟩ := evO_shape p t [] hs hg
  rw [h1]
  unfold evT
  generalize t.foldl (evB p) [] = r at h2
  match r, h2 with
  | [x], _ => rfl
  | [], h => cases h
  | _ :: _ :: _, h => simp at h
/-- What the last sign of a row that is read so is. -/
theorem evO_last {p : Int → Bool} {t' : List Int} {s : Int} {x : Bool} {st : List Bool} (hs : 0 ≤ s ∧ s ≤ 8) (h : evO p (t' ++ [s]) [] = some (x :: st)) :
    (s < 3 ∧ x = p s ∧ evO p t' [] = some st) ∨ ((s = 3 ∨ s = 4) ∧ x = (s == 4) ∧ evO p t' [] = some st) ∨ (∃ b, s = 8 ∧ x = !b ∧ evO p t' [] = some (b :: st)) ∨
    (∃ a b, 5 ≤ s ∧ s ≤ 7 ∧ x = opB s a b ∧ evO p t' [] = some (b :: a :: st)) := by
  rw [evO_snoc] at h
  cases hv : evO p t' [] with
  | none => rw [hv] at h; cases h
  | some st' =>
    rw [hv] at h
    simp only [Option.bind_some, stepO] at h
    split at h
    · cases h
    rename_i h1
    simp only [Option.some.injEq, evB] at h
    unfold takes at h1
    by_cases h3 : s < 3
    · rw [if_pos h3] at h
      simp only [List.cons.injEq] at h
      exact .inl ⟨h3, h.1.symm, by rw [h.2]⟩
    rw [if_neg h3] at h
    by_cases h4 : s = 3
    · rw [if_pos h4] at h
      simp only [List.cons.injEq] at h
      exact .inr (.inl ⟨.inl h4, by rw [← h.1, h4]; rfl, by rw [h.2]⟩)
    rw [if_neg h4] at h
    by_cases h5 : s = 4
    · rw [if_pos h5] at h
      simp only [List.cons.injEq] at h
      exact .inr (.inl ⟨.inr h5, by rw [← h.1, h5]; rfl, by rw [h.2]⟩)
    rw [if_neg h5] at h
    by_cases h8 : s = 8
    · rw [if_pos h8] at h h1
      match st', h1 with
      | [], h1 => simp at h1
      | b :: r, _ =>
        simp only [List.cons.injEq] at h
        exact .inr (.inr (.inl ⟨b, h8, h.1.symm, by rw [h.2]⟩))
    rw [if_neg h8] at h
    rw [if_neg h8, if_pos (by omega)] at h1
    match st', h1 with
    | [], h1 => simp at h1
    | [_], h1 => simp at h1
    | b :: a :: r, _ =>
      simp only [List.cons.injEq] at h
      exact .inr (.inr (.inr ⟨a, b, by omega, by omega, h.1.symm, by rw [h.2]⟩))
/-- A set is the sum of what it has. -/
def bitsTo (s : Int) : Nat → Int
  | 0 => 0
  | n + 1 => if bit s n = true then bitsTo s n + ((2 ^ n : Nat) : Int) else bitsTo s n
theorem bits_sum : ∀ (U : Fin 7) (S : Fin 64), setChk ((U.val : Nat) : Int) ((S.val : Nat) : Int) = 0 → bitsTo ((S.val : Nat) : Int) U.val = ((S.val : Nat) : Int) := by decide +kernel
theorem bitsTo_self {u s : Int} (h : setChk u s = 0) : bitsTo s u.toNat = s := by
  obtain ⟨U, S, rfl, rfl⟩ := small_of h
  exact bits_sum U S h
theorem bitsTo_range (s : Int) : ∀ n, 0 ≤ bitsTo s n ∧ bitsTo s n < ((2 ^ n : Nat) : Int) := by
  intro n
  induction n with
  | zero => simp [bitsTo]
  | succ n ih =>
    simp only [bitsTo, Nat.pow_succ]
    split <;> omega
end Venn
