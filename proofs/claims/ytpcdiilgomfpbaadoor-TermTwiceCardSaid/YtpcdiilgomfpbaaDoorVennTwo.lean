/-
  THE PLAIN SIDE of two terms, one behind the other.
-/
import Derived.Test.YtpcdiilgomfpbaaDoorVennL
import Derived.Test.YtpcdiilgomfpbaaDoorVennV
namespace Venn
theorem setStep_base {w : World} {st base : List Int} {x : Int} (hx : 0 ≤ x ∧ x ≤ 8) (h : takes x ≤ st.length) : setStep w (st ++ base) x = setStep w st x ++ base := by
  unfold takes at h
  unfold setStep
  by_cases h3 : x < 3
  · simp [h3]
  by_cases e3 : x = 3
  · simp [e3]
  by_cases e4 : x = 4
  · simp [e4]
  by_cases e8 : x = 8
  · subst e8
    match st, h with
    | y :: r, _ => simp
  · have h5 : 5 ≤ x := by omega
    rw [if_neg e8, if_pos h5] at h
    match st, h with
    | y :: z :: r, _ => simp [h3, e3, e4, e8]
    | [y], h => simp at h
    | [], h => simp at h
theorem foldl_base {w : World} : ∀ (t : List Int) (st base : List Int), (∀ x ∈ t, 0 ≤ x ∧ x ≤ 8) → shapeGo st.length t = 0 → t.foldl (setStep w) (st ++ base) = t.foldl (setStep w) st ++ base := by
  intro t
  induction t with
  | nil => intro st base _ _; rfl
  | cons x t ih =>
    intro st base hx hs
    have hx0 := hx x (by simp)
    obtain ⟨h1, h2⟩ := shape_step hs
    simp only [List.foldl_cons]
    rw [setStep_base hx0 (by omega)]
    have hl := setStep_length (w := w) hx0 h1
    exact ih _ base (fun y hy => hx y (List.mem_cons_of_mem _ hy)) (by rw [hl]; exact h2)
theorem shape_app : ∀ (t u : List Int) (k m : Int), 0 ≤ m → shapeGo k t = 0 → shapeGo (m + k) (t ++ u) = shapeGo (m + 1) u := by
  intro t
  induction t with
  | nil =>
    intro u k m _ h
    simp only [shapeGo] at h
    split at h
    · rename_i hk; rw [hk]; rfl
    · cases h
  | cons x t ih =>
    intro u k m hm h
    simp only [shapeGo] at h
    split at h
    · cases h
    · rename_i hk
      simp only [List.cons_append, shapeGo]
      rw [if_neg (by omega), ← ih u _ m hm h]
      congr 1
      omega
theorem termChk_split {t : List Int} (h : termChk t = 0) : 0 < t.length ∧ t.length ≤ 12 ∧ (∀ x ∈ t, 0 ≤ x ∧ x ≤ 8) ∧ shapeGo 0 t = 0 := by
  unfold termChk at h
  split at h
  · simp at h
  · split at h
    · simp at h
    · split at h
      · simp at h
      · rename_i h1 h2 h3
        refine ⟨by omega, by omega, fun x hx => ?_, h⟩
        have h3' : t.any badSign = false := by simpa using h3
        have := List.any_eq_false.1 h3' x hx
        simp [badSign] at this
        omega
theorem termChk_both {t r : List Int} {what : Int} (ht : termChk t = 0) (hr : termChk r = 0) (hl : t.length + r.length ≤ 11) (hw : 5 ≤ what ∧ what ≤ 7) : termChk (t ++ r ++ [what]) = 0 := by
  obtain ⟨t1, _, t3, t4⟩ := termChk_split ht
  obtain ⟨r1, _, r3, r4⟩ := termChk_split hr
  have hs : shapeGo 0 (t ++ r ++ [what]) = 0 := by
    have h1 := shape_app t (r ++ [what]) 0 0 (by omega) t4
    have h2 := shape_app r [what] 0 1 (by omega) r4
    simp only [Int.add_zero, Int.zero_add] at h1 h2
    rw [List.append_assoc, h1, h2]
    have htk : takes what = 2 := by unfold takes; rw [if_neg (by omega), if_pos (by omega)]
    simp [shapeGo, htk]
  unfold termChk
  rw [if_neg (by simp), if_neg (by simp; omega), if_neg, hs]
  intro h
  obtain ⟨x, hx, hb⟩ := List.any_eq_true.1 h
  have : 0 ≤ x ∧ x ≤ 8 := by
    rcases List.mem_append.1 hx with hx | hx
    · rcases List.mem_append.1 hx with hx | hx
      · exact t3 x hx
      · exact r3 x hx
    · rw [List.mem_singleton.1 hx]; omega
  simp [badSign] at hb
  omega
theorem fold_one {w : World} {t : List Int} (ht : termChk t = 0) (base : List Int) : t.foldl (setStep w) base = termSet t w :: base := by
  obtain ⟨_, _, t3, t4⟩ := termChk_split ht
  have h1 := foldl_base (w := w) t [] base t3 (by simpa using t4)
  simp only [List.nil_append] at h1
  have hlen : ∀ (t : List Int) (st : List Int), (∀ x ∈ t, 0 ≤ x ∧ x ≤ 8) → shapeGo st.length t = 0 → (t.foldl (setStep w) st).length = 1 := by
    intro t
    induction t with
    | nil => intro st _ h; simp only [shapeGo] at h; split at h <;> first | (simp; omega) | cases h
    | cons x t ih =>
      intro st hx hs
      have hx0 := hx x (by simp)
      obtain ⟨h1, h2⟩ := shape_step hs
      have hl := setStep_length (w := w) hx0 h1
      exact ih _ (fun y hy => hx y (List.mem_cons_of_mem _ hy)) (by rw [hl]; exact h2)
  have h2 := hlen t [] t3 (by simpa using t4)
  rw [h1, termSet]
  match hh : t.foldl (setStep w) [], h2 with
  | [y], _ => rfl
theorem termSet_both {w : World} {t r : List Int} {what : Int} (ht : termChk t = 0) (hr : termChk r = 0) (hw : 5 ≤ what ∧ what ≤ 7) : termSet (t ++ r ++ [what]) w = setOf what w.things (termSet t w) (termSet r w) := by
  have e : (t ++ r ++ [what]).foldl (setStep w) [] = [setOf what w.things (termSet t w) (termSet r w)] := by
    rw [List.foldl_append, List.foldl_append, fold_one ht, fold_one hr]
    simp only [List.foldl_cons, List.foldl_nil, setStep]
    rw [if_neg (by omega), if_neg (by omega), if_neg (by omega), if_neg (by omega)]
  rw [termSet, e]
  rfl
end Venn
