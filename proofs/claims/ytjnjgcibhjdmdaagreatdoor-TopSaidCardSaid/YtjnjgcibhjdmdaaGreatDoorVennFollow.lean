/-
  THE PLAIN SIDE of AskFollows: what follows cannot fail.
-/
import Derived.Test.YtjnjgcibhjdmdaaGreatDoorVennP2
namespace Venn
theorem yesno_sum (l : List Form) (f : Form) : ∀ (xs : List (List Int)), yesOf l f xs + noOf l f xs = (xs.filter fun x => formsTrue l (made x)).length := by
  intro xs
  induction xs with
  | nil => simp [yesOf, noOf]
  | cons x xs ih =>
    unfold yesOf noOf at *
    simp only [List.filter_cons]
    cases formsTrue l (made x) <;> cases formTrue f (made x) <;> simp <;> omega
theorem filter_pos {α : Type} {p : α → Bool} {l : List α} : 0 < (l.filter p).length ↔ ∃ x ∈ l, p x = true := by
  constructor
  · intro h
    obtain ⟨x, hx⟩ := List.exists_mem_of_length_pos h
    exact ⟨x, (List.mem_filter.1 hx).1, (List.mem_filter.1 hx).2⟩
  · rintro ⟨x, hx, hp⟩
    exact List.length_pos_of_mem (List.mem_filter.2 ⟨hx, hp⟩)
theorem askErr_parts {l : List Form} {f : Form} {u : Int} (h : askErr l f u = 0) : coreChk l u = 0 ∧ formChk f = 0 ∧ yesOf l f (allC u) + noOf l f (allC u) ≠ 0 := by
  unfold askErr at h
  split at h
  · rename_i h1
    split at h
    · cases h
    · rename_i h2
      unfold askChk at h1
      split at h1
      · exact ⟨by assumption, h1, by omega⟩
      · contradiction
  · contradiction
theorem answer_cases (y n : Int) : (answer y n = 1 ∧ n = 0) ∨ (answer y n = -1 ∧ n ≠ 0 ∧ y = 0) ∨ (answer y n = 0 ∧ n ≠ 0 ∧ y ≠ 0) := by
  unfold answer
  by_cases h1 : n = 0
  · exact .inl ⟨if_pos h1, h1⟩
  · by_cases h2 : y = 0
    · exact .inr (.inl ⟨by rw [if_neg h1, if_pos h2], h1, h2⟩)
    · exact .inr (.inr ⟨by rw [if_neg h1, if_neg h2], h1, h2⟩)
theorem askV_cases {l : List Form} {f : Form} {u : Int} (h : askErr l f u = 0) :
    (askV l f u = 1 ∧ noOf l f (allC u) = 0) ∨ (askV l f u = -1 ∧ noOf l f (allC u) ≠ 0 ∧ yesOf l f (allC u) = 0) ∨ (askV l f u = 0 ∧ noOf l f (allC u) ≠ 0 ∧ yesOf l f (allC u) ≠ 0) := by
  have e : askV l f u = answer (yesOf l f (allC u)) (noOf l f (allC u)) := if_pos h
  rw [e]
  have := answer_cases (yesOf l f (allC u)) (noOf l f (allC u))
  omega
theorem follow_world {l : List Form} {f : Form} {u : Int} (h : askErr l f u = 0) {w : World} (hw : worldChk w = 0) (hu : w.things = u) (hl : formsTrue l w = true) {v : Bool} (hv : formTrue f w = v) :
    ¬ (askV l f u = 1 ∧ v = false) ∧ ¬ (askV l f u = -1 ∧ v = true) := by
  obtain ⟨h1, h2, _⟩ := askErr_parts h
  have hx : fieldsOf w ∈ allC u := by rw [← hu]; exact fieldsOf_mem hw
  have hlx : formsTrue l (made (fieldsOf w)) = true := by
    unfold formsTrue at hl ⊢
    rw [List.all_eq_true] at hl ⊢
    intro g hg
    rw [formTrue_made (formsChk_mem (coreChk_parts h1).2.2.1 g hg) hw]
    exact hl g hg
  have hfx : formTrue f (made (fieldsOf w)) = v := by rw [formTrue_made h2 hw, hv]
  have hc := askV_cases h
  constructor
  · rintro ⟨e1, rfl⟩
    have : 0 < noOf l f (allC u) := filter_pos.2 ⟨_, hx, by rw [hlx, hfx]; rfl⟩
    omega
  · rintro ⟨e1, rfl⟩
    have : 0 < yesOf l f (allC u) := filter_pos.2 ⟨_, hx, by rw [hlx, hfx]; rfl⟩
    omega
theorem follow_head {l : List Form} {f f0 : Form} {u : Int} (h : askErr l f u = 0) (h0 : f0 ∈ l) : askErr l f0 u = 0 ∧ askV l f0 u = 1 := by
  obtain ⟨h1, _, h3⟩ := askErr_parts h
  have hn : noOf l f0 (allC u) = 0 := by
    rcases Nat.eq_zero_or_pos (noOf l f0 (allC u)) with h | h
    · exact h
    · obtain ⟨x, _, hp⟩ := filter_pos.1 h
      simp only [Bool.and_eq_true, Bool.not_eq_true'] at hp
      have := List.all_eq_true.1 hp.1 f0 h0
      rw [hp.2] at this
      cases this
  have e1 := yesno_sum l f (allC u)
  have e2 := yesno_sum l f0 (allC u)
  have hk : askChk l f0 u = 0 := by rw [askChk, if_pos h1]; exact formsChk_mem (coreChk_parts h1).2.2.1 f0 h0
  have he : askErr l f0 u = 0 := by rw [askErr, if_pos hk, if_neg (by omega)]
  exact ⟨he, by rw [askV, if_pos he, answer, if_pos (by omega)]⟩
theorem neg_counts {l : List Form} {f : Form} (hf : formChk f = 0) (xs : List (List Int)) : yesOf l (negF f) xs = noOf l f xs ∧ noOf l (negF f) xs = yesOf l f xs := by
  unfold yesOf noOf
  refine ⟨?_, ?_⟩ <;> simp only [negF_true hf, Bool.not_not]
theorem follow_neg {l : List Form} {f : Form} {u : Int} (h : askErr l f u = 0) (hlen : f.code.length < 20) : askErr l (negF f) u = 0 ∧ askV l (negF f) u = -askV l f u := by
  obtain ⟨h1, h2, h3⟩ := askErr_parts h
  obtain ⟨e1, e2⟩ := neg_counts (l := l) h2 (allC u)
  have hk : askChk l (negF f) u = 0 := by rw [askChk, if_pos h1]; exact negF_chk h2 hlen
  have he : askErr l (negF f) u = 0 := by rw [askErr, if_pos hk, e1, e2, if_neg (by omega)]
  refine ⟨he, ?_⟩
  have c1 := askV_cases h
  have c2 := askV_cases he
  rw [e1, e2] at c2
  omega
theorem follow_open {l : List Form} {f : Form} {u : Int} (h : askErr l f u = 0) (hlen : f.code.length < 20) (h6 : l.length ≤ 5) : coreChk (l ++ [negF f]) u = 0 ∧ openV (l ++ [negF f]) u = !decide (askV l f u = 1) := by
  obtain ⟨h1, h2, h3⟩ := askErr_parts h
  obtain ⟨g1, g2, g3, g4⟩ := coreChk_parts h1
  have hfs : ∀ (l : List Form) (g : Form), formsChk l = 0 → formChk g = 0 → formsChk (l ++ [g]) = 0 := by
    intro l g hl hg
    induction l with
    | nil => simp [formsChk, hg]
    | cons x l ih =>
      unfold formsChk at hl
      split at hl
      · rename_i hx
        rw [List.cons_append, formsChk, if_pos hx]
        exact ih hl
      · contradiction
  refine ⟨by rw [coreChk, if_neg (by simp), if_neg (by simp; omega), if_pos (hfs l _ g3 (negF_chk h2 hlen)), if_pos g4], ?_⟩
  have hc := askV_cases h
  have hopen : openV (l ++ [negF f]) u = true ↔ 0 < noOf l f (allC u) := by
    rw [openV_iff]
    unfold noOf
    rw [filter_pos]
    have e : ∀ x : List Int, formsTrue (l ++ [negF f]) (made x) = (formsTrue l (made x) && !formTrue f (made x)) := fun x => by
      unfold formsTrue
      rw [List.all_append]
      simp [negF_true h2]
    simp only [e]
  by_cases hn : noOf l f (allC u) = 0
  · have : openV (l ++ [negF f]) u = false := by
      cases ho : openV (l ++ [negF f]) u
      · rfl
      · have := hopen.1 ho; omega
    rw [this, decide_eq_true (by omega)]; rfl
  · rw [hopen.2 (by omega), decide_eq_false (by omega)]; rfl
end Venn
