/-
  A formula's signs read from the end (no program).
-/
import Derived.Test.YtcecbpbpknphjaaDoorVennP1
namespace Venn
/-- The stack of answers, where no sign lacks one. -/
def fStepO (w : World) (l : List Atom) (st : List Bool) (s : Int) : Option (List Bool) := if (st.length : Int) < fTakes s then none else some (fStep w l st s)
def fEvO (w : World) (l : List Atom) : List Int → List Bool → Option (List Bool)
  | [], st => some st
  | s :: r, st => match fStepO w l st s with
    | none => none
    | some st' => fEvO w l r st'
theorem fEvO_snoc (w : World) (l : List Atom) (s : Int) : ∀ (t : List Int) (st : List Bool), fEvO w l (t ++ [s]) st = (fEvO w l t st).bind fun st' => fStepO w l st' s := by
  intro t
  induction t with
  | nil => intro st; simp only [List.nil_append, fEvO, Option.bind_some]; cases fStepO w l st s <;> rfl
  | cons x t ih =>
    intro st
    simp only [List.cons_append, fEvO]
    cases fStepO w l st x with
    | none => rfl
    | some st' => exact ih st'
theorem fEvO_shape (w : World) (l : List Atom) : ∀ (t : List Int) (st : List Bool), fShape st.length t = true → fEvO w l t st = some (t.foldl (fStep w l) st) := by
  intro t
  induction t with
  | nil => intro st _; rfl
  | cons s t ih =>
    intro st h
    rw [fShape] at h
    split at h
    · cases h
    rename_i h1
    have hl := fStep_length (w := w) (l := l) h1
    have := ih (fStep w l st s) (by rw [hl]; exact h)
    simp only [fEvO, fStepO, if_neg h1]
    exact this
theorem fEvO_form {l : List Atom} {c : List Int} (h : formChk ⟨l, c⟩ = 0) (w : World) : fEvO w l c [] = some [formTrue ⟨l, c⟩ w] := by
  obtain ⟨_, _, _, _, _, _, h7⟩ := formChk_parts h
  rw [fEvO_shape w l c [] h7, ffold_one h7]
def opF (s : Int) (a b : Bool) : Bool := if s = 10 then a && b else if s = 11 then a || b else !a || b
/-- What the last sign of a row that is read so is. -/
theorem fEvO_last {w : World} {l : List Atom} {t' : List Int} {s : Int} {x : Bool} {st : List Bool} (hs : codeOk l.length s = true) (h : fEvO w l (t' ++ [s]) [] = some (x :: st)) :
    (∃ a, 0 ≤ s ∧ s < 6 ∧ l[s.toNat]? = some a ∧ x = atomTrue a w ∧ fEvO w l t' [] = some st) ∨ (∃ b, s = 12 ∧ x = !b ∧ fEvO w l t' [] = some (b :: st)) ∨
    (∃ a b, (s = 10 ∨ s = 11 ∨ s = 13) ∧ x = opF s a b ∧ fEvO w l t' [] = some (b :: a :: st)) := by
  rw [fEvO_snoc] at h
  cases hv : fEvO w l t' [] with
  | none => rw [hv] at h; cases h
  | some st' =>
    rw [hv] at h
    simp only [Option.bind_some, fStepO] at h
    split at h
    · cases h
    rename_i h1
    simp only [Option.some.injEq, fStep] at h
    unfold fTakes at h1
    rcases codeOk_cases hs with rfl | rfl | rfl | rfl | ⟨h0, h6, hn⟩
    · match st', h1, h with
      | [], h1, _ => simp at h1
      | b :: r, _, h =>
        simp only [if_true, List.cons.injEq] at h
        exact .inr (.inl ⟨b, rfl, h.1.symm, by rw [h.2]⟩)
    · match st', h1, h with
      | [], h1, _ => simp at h1
      | [_], h1, _ => simp at h1
      | b :: a :: r, _, h =>
        simp at h
        exact .inr (.inr ⟨a, b, by omega, by rw [← h.1]; rfl, by rw [h.2]⟩)
    · match st', h1, h with
      | [], h1, _ => simp at h1
      | [_], h1, _ => simp at h1
      | b :: a :: r, _, h =>
        simp at h
        exact .inr (.inr ⟨a, b, by omega, by rw [← h.1]; rfl, by rw [h.2]⟩)
    · match st', h1, h with
      | [], h1, _ => simp at h1
      | [_], h1, _ => simp at h1
      | b :: a :: r, _, h =>
        simp at h
        exact .inr (.inr ⟨a, b, by omega, by rw [← h.1]; rfl, by rw [h.2]⟩)
    · rw [if_neg (by omega), if_neg (by omega), if_neg (by omega), if_neg (by omega)] at h
      obtain ⟨a, ha⟩ : ∃ a, l[s.toNat]? = some a := ⟨l[s.toNat]'(by omega), List.getElem?_eq_getElem (by omega)⟩
      rw [ha] at h
      simp only [List.cons.injEq] at h
      exact .inl ⟨a, h0, h6, ha, h.1.symm, by rw [h.2]⟩
end Venn
