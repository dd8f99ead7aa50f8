/-
  THE PLAIN SIDE of formulas.
-/
import Derived.Test.YtpcdiilgomfpbaaDoorVennAtom
namespace Venn
structure Form where
  atoms : List Atom
  code : List Int
/-- So many formulas a sign takes. -/
def fTakes (s : Int) : Int := if s = 12 then 1 else if s = 10 ∨ s = 11 ∨ s = 13 then 2 else 0
def fSign (s : Int) : Bool := decide (s = 12) || decide (s = 10 ∨ s = 11 ∨ s = 13) || decide (0 ≤ s ∧ s < 6)
def fShape : Int → List Int → Bool
  | m, [] => decide (m = 1)
  | m, s :: r => if m < fTakes s then false else fShape (m + (1 - fTakes s)) r
def codeOk (n : Int) (s : Int) : Bool := fSign s && !(decide (fTakes s = 0) && decide (n ≤ s))
def atomsChk : List Atom → Int
  | [] => 0
  | a :: r => if atomChk a = 0 then atomsChk r else atomChk a
def codeChk (n : Int) (c : List Int) : Int := if c.all (codeOk n) = true then (if fShape 0 c = true then 0 else 3) else 1
def formChk (f : Form) : Int :=
  if f.atoms.length = 0 ∨ f.code.length = 0 then 5
  else if 6 < f.atoms.length ∨ 20 < f.code.length then 4
  else if atomsChk f.atoms = 0 then codeChk f.atoms.length f.code else atomsChk f.atoms
def fStep (w : World) (l : List Atom) (st : List Bool) (s : Int) : List Bool :=
  if s = 12 then (match st with | x :: r => (!x) :: r | [] => [])
  else if s = 10 then (match st with | y :: x :: r => (x && y) :: r | _ => st)
  else if s = 11 then (match st with | y :: x :: r => (x || y) :: r | _ => st)
  else if s = 13 then (match st with | y :: x :: r => (!x || y) :: r | _ => st)
  else (match l[s.toNat]? with | some a => atomTrue a w :: st | none => false :: st)
def formTrue (f : Form) (w : World) : Bool := (f.code.foldl (fStep w f.atoms) []).headD false
def formHoldsChk (f : Form) (w : World) : Int := if formChk f = 0 then worldChk w else formChk f
def formHoldsV (f : Form) (w : World) : Bool := if formHoldsChk f w = 0 then formTrue f w else false

theorem fTakes_012 (s : Int) : fTakes s = 0 ∨ fTakes s = 1 ∨ fTakes s = 2 := by
  unfold fTakes
  split
  · exact .inr (.inl rfl)
  · split
    · exact .inr (.inr rfl)
    · exact .inl rfl
theorem formChk_parts {f : Form} (h : formChk f = 0) : 0 < f.atoms.length ∧ f.atoms.length ≤ 6 ∧ 0 < f.code.length ∧ f.code.length ≤ 20 ∧ atomsChk f.atoms = 0 ∧ f.code.all (codeOk f.atoms.length) = true ∧ fShape 0 f.code = true := by
  unfold formChk at h
  split at h
  · cases h
  · split at h
    · cases h
    · split at h
      · unfold codeChk at h
        split at h
        · split at h
          · refine ⟨by omega, by omega, by omega, by omega, by assumption, by assumption, by assumption⟩
          · cases h
        · cases h
      · contradiction
theorem atomsChk_mem : ∀ {l : List Atom}, atomsChk l = 0 → ∀ a ∈ l, atomChk a = 0 := by
  intro l
  induction l with
  | nil => intro _ a h; cases h
  | cons b l ih =>
    intro h a ha
    unfold atomsChk at h
    split at h
    · rcases List.mem_cons.1 ha with rfl | ha
      · assumption
      · exact ih h a ha
    · contradiction
/-- What a sign that is right is. -/
theorem codeOk_cases {n s : Int} (h : codeOk n s = true) : s = 12 ∨ s = 10 ∨ s = 11 ∨ s = 13 ∨ (0 ≤ s ∧ s < 6 ∧ s < n) := by
  simp only [codeOk, fSign, Bool.and_eq_true, Bool.or_eq_true, decide_eq_true_eq, Bool.not_eq_true'] at h
  obtain ⟨h1, h2⟩ := h
  by_cases h12 : s = 12
  · exact .inl h12
  by_cases h3 : s = 10 ∨ s = 11 ∨ s = 13
  · omega
  have ht : fTakes s = 0 := by unfold fTakes; rw [if_neg h12, if_neg h3]
  simp [ht] at h2
  omega
theorem fStep_length {w : World} {l : List Atom} {st : List Bool} {s : Int} (h : ¬ ((st.length : Int) < fTakes s)) : ((fStep w l st s).length : Int) = st.length + (1 - fTakes s) := by
  unfold fStep fTakes at *
  by_cases h12 : s = 12
  · rw [if_pos h12] at h ⊢
    rw [if_pos h12]
    match st, h with
    | x :: r, _ => simp
  rw [if_neg h12] at h ⊢
  rw [if_neg h12]
  by_cases h3 : s = 10 ∨ s = 11 ∨ s = 13
  · rw [if_pos h3] at h ⊢
    match st, h with
    | [], h => simp at h
    | [x], h => simp at h
    | y :: x :: r, _ =>
      rcases h3 with rfl | rfl | rfl
      all_goals simp; omega
  · rw [if_neg h3, if_neg (by omega), if_neg (by omega), if_neg (by omega)]
    split <;> simp
end Venn
