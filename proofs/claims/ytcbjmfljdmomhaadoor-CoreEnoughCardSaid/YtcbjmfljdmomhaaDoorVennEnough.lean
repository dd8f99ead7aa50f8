/-
  THE PLAIN SIDE of CoreEnough: what the core picks is not open; its numbers rise; what is left is what they name.
-/
import Derived.Test.YtcbjmfljdmomhaaDoorVennPick
namespace Venn
/-- What lies at a number. -/
def atF (l : List Form) (i : Int) : Form := l.getD i.toNat ⟨[], []⟩
theorem coreGo_shut {l : List Form} {u : Int} (h : openV l u = false) : ∀ k : Nat, openV (coreGo l u k).1 u = false := by
  intro k
  induction k with
  | zero => exact h
  | succ k ih =>
    rw [coreGo_succ, coreStep]
    split
    · exact ih
    · rename_i h1
      simpa using h1
/-- What is left is what was found, and all that is still to come. -/
theorem coreGo_left (l : List Form) (u : Int) : ∀ k : Nat, k ≤ l.length → (coreGo l u k).1 = (coreGo l u k).2.map (atF l) ++ l.drop k := by
  intro k
  induction k with
  | zero => intro _; simp [coreGo]
  | succ k ih =>
    intro hk
    have h := ih (by omega)
    have hlt : k < l.length := by omega
    have hd := List.drop_eq_getElem_cons hlt
    have hat : atF l (k : Int) = l[k] := by simp [atF, List.getD, hlt]
    have hlen : ((coreGo l u k).2.map (atF l)).length = (coreGo l u k).2.length := by simp
    rw [coreGo_succ, coreStep]
    split
    · show (coreGo l u k).1 = ((coreGo l u k).2 ++ [(k : Int)]).map (atF l) ++ l.drop (k + 1)
      rw [h, hd, List.map_append, List.append_assoc]
      simp [hat]
    · show (coreGo l u k).1.eraseIdx (coreGo l u k).2.length = (coreGo l u k).2.map (atF l) ++ l.drop (k + 1)
      rw [h, hd, ← hlen, List.eraseIdx_append_of_length_le (Nat.le_refl _), Nat.sub_self]
      rfl
/-- The numbers found are below k, and rise. -/
theorem coreGo_rise (l : List Form) (u : Int) : ∀ k : Nat, (∀ x ∈ (coreGo l u k).2, 0 ≤ x ∧ x < (k : Int)) ∧ (coreGo l u k).2.Pairwise (· < ·) := by
  intro k
  induction k with
  | zero => simp [coreGo]
  | succ k ih =>
    obtain ⟨h1, h2⟩ := ih
    rw [coreGo_succ, coreStep]
    split
    · refine ⟨fun x hx => ?_, ?_⟩
      · rcases List.mem_append.1 hx with hx | hx
        · have := h1 x hx
          omega
        · rw [List.mem_singleton.1 hx]
          omega
      · refine List.pairwise_append.2 ⟨h2, List.pairwise_singleton _ _, fun x hx y hy => ?_⟩
        rw [List.mem_singleton.1 hy]
        exact (h1 x hx).2
    · exact ⟨fun x hx => by have := h1 x hx; omega, h2⟩
/-- What holds of more holds of fewer. -/
theorem formsTrue_sub {l m : List Form} {w : World} (h : ∀ f ∈ m, f ∈ l) (ht : formsTrue l w = true) : formsTrue m w = true := by
  unfold formsTrue at ht ⊢
  rw [List.all_eq_true] at ht ⊢
  exact fun f hf => ht f (h f hf)
theorem openV_sub {l m : List Form} {u : Int} (h : ∀ f ∈ m, f ∈ l) (ho : openV l u = true) : openV m u = true := by
  obtain ⟨x, hx, ht⟩ := openV_iff.1 ho
  exact openV_iff.2 ⟨x, hx, formsTrue_sub h ht⟩
/-- What the core names is not open. -/
theorem core_shut {l : List Form} {u : Int} (h : openV l u = false) : openV ((coreGo l u l.length).2.map (atF l)) u = false := by
  have h1 := coreGo_shut h l.length
  rw [coreGo_left l u l.length (Nat.le_refl _), List.drop_length, List.append_nil] at h1
  exact h1
theorem erase_two {α : Type} (L : List α) {i a : Nat} (hi : i < a) (ha : i < L.length) : ∀ f ∈ (L.eraseIdx a).eraseIdx i, f ∈ L.eraseIdx i := by
  obtain ⟨A, x, B, hL, hA⟩ : ∃ A x B, L = A ++ x :: B ∧ A.length = i := ⟨L.take i, L[i], L.drop (i + 1), by rw [← List.drop_eq_getElem_cons ha, List.take_append_drop], by rw [List.length_take]; omega⟩
  subst hL hA
  intro f hf
  obtain ⟨b, rfl⟩ : ∃ b, a = A.length + (b + 1) := ⟨a - A.length - 1, by omega⟩
  rw [List.eraseIdx_append_of_length_le (by omega), Nat.add_sub_cancel_left, List.eraseIdx_cons_succ, List.eraseIdx_append_of_length_le (Nat.le_refl _), Nat.sub_self] at hf
  rw [List.eraseIdx_append_of_length_le (Nat.le_refl _), Nat.sub_self]
  simp only [List.eraseIdx_cons_zero] at hf ⊢
  rcases List.mem_append.1 hf with h | h
  · exact List.mem_append.2 (.inl h)
  · exact List.mem_append.2 (.inr (List.mem_of_mem_eraseIdx h))
/-- Without any one of those that were found it is open. -/
theorem coreGo_min (l : List Form) (u : Int) : ∀ k : Nat, k ≤ l.length → ∀ i, i < (coreGo l u k).2.length → openV ((coreGo l u k).1.eraseIdx i) u = true := by
  intro k
  induction k with
  | zero => intro _ i h; simp [coreGo] at h
  | succ k ih =>
    intro hk i hi
    have h := ih (by omega)
    have hl := coreGo_len l u k (by omega)
    rw [coreGo_succ] at hi ⊢
    unfold coreStep at hi ⊢
    split at hi
    · rename_i ho
      rw [if_pos ho]
      show openV ((coreGo l u k).1.eraseIdx i) u = true
      by_cases he : i = (coreGo l u k).2.length
      · rw [he]; exact ho
      · refine h i ?_
        simp only [List.length_append, List.length_cons, List.length_nil] at hi
        omega
    · rename_i ho
      rw [if_neg ho]
      have hi' : i < (coreGo l u k).2.length := hi
      exact openV_sub (erase_two _ hi' (by omega)) (h i hi')
theorem core_min {l : List Form} {u : Int} {i : Nat} (hi : i < (coreGo l u l.length).2.length) : openV (((coreGo l u l.length).2.map (atF l)).eraseIdx i) u = true := by
  have h := coreGo_min l u l.length (Nat.le_refl _) i hi
  rwa [coreGo_left l u l.length (Nat.le_refl _), List.drop_length, List.append_nil] at h
theorem formsChk_of : ∀ {l : List Form}, (∀ f ∈ l, formChk f = 0) → formsChk l = 0 := by
  intro l
  induction l with
  | nil => intro _; rfl
  | cons f r ih =>
    intro h
    rw [formsChk, if_pos (h f (by simp))]
    exact ih fun g hg => h g (List.mem_cons_of_mem _ hg)
theorem coreChk_sub {l m : List Form} {u : Int} (h : coreChk l u = 0) (hm : ∀ f ∈ m, f ∈ l) (h0 : m.length ≠ 0) (h6 : m.length ≤ 6) : coreChk m u = 0 := by
  obtain ⟨_, _, h1, h2⟩ := coreChk_parts h
  rw [coreChk, if_neg h0, if_neg (by omega), if_pos (formsChk_of fun f hf => formsChk_mem h1 f (hm f hf)), if_pos h2]
theorem openV_nil {u : Int} (hu : things u = true) : openV [] u = true := by
  obtain ⟨x, hx⟩ := allC_ne hu
  exact openV_iff.2 ⟨x, hx, rfl⟩
/-- What is open: so is the first alone. -/
theorem enough_open {l : List Form} {u : Int} (hc : coreChk l u = 0) (ho : openV l u = true) : coreErr l u = 8 ∧ coreChk (l.take 1) u = 0 ∧ openV (l.take 1) u = true := by
  obtain ⟨h0, _, _, _⟩ := coreChk_parts hc
  refine ⟨by rw [coreErr, if_pos hc, if_pos ho], coreChk_sub hc (fun f hf => List.mem_of_mem_take hf) (by rw [List.length_take]; omega) (by rw [List.length_take]; omega), openV_sub (fun f hf => List.mem_of_mem_take hf) ho⟩
/-- What is not open: what the core names. -/
structure EnoughAt (l : List Form) (u : Int) (x : List Int) : Prop where
  err : coreErr l u = 0
  val : coreV l u = x
  pos : 0 < x.length
  six : x.length ≤ 6
  rng : ∀ y ∈ x, 0 ≤ y ∧ y < (l.length : Int)
  rise : x.Pairwise (· < ·)
  chk : coreChk (x.map (atF l)) u = 0
  shut : openV (x.map (atF l)) u = false
  less : ∀ i, i < x.length → 1 < x.length → coreChk ((x.map (atF l)).eraseIdx i) u = 0 ∧ openV ((x.map (atF l)).eraseIdx i) u = true
theorem enough_shut {l : List Form} {u : Int} (hc : coreChk l u = 0) (ho : openV l u = false) : ∃ x, EnoughAt l u x := by
  obtain ⟨h0, h6, _, hu⟩ := coreChk_parts hc
  have he : coreErr l u = 0 := by rw [coreErr, if_pos hc, ho]; rfl
  have hs := core_shut ho
  obtain ⟨hr, hp⟩ := coreGo_rise l u l.length
  have hm : ∀ i, i < (coreGo l u l.length).2.length → openV (((coreGo l u l.length).2.map (atF l)).eraseIdx i) u = true := fun i hi => core_min hi
  have hlen : (coreGo l u l.length).2.length ≤ l.length := by
    have h1 := coreGo_left l u l.length (Nat.le_refl _)
    have h2 := coreGo_len l u l.length (Nat.le_refl _)
    omega
  have hv : coreV l u = (coreGo l u l.length).2 := by rw [coreV, if_pos he]
  generalize (coreGo l u l.length).2 = x at *
  have hx0 : x ≠ [] := by
    intro h
    rw [h] at hs
    rw [List.map_nil, openV_nil hu] at hs
    cases hs
  have hpos := List.length_pos_iff.2 hx0
  have hmem : ∀ f ∈ x.map (atF l), f ∈ l := by
    intro f hf
    obtain ⟨y, hy, rfl⟩ := List.mem_map.1 hf
    have hyr := hr y hy
    have hlt : y.toNat < l.length := by omega
    simp [atF, List.getD, hlt]
  refine ⟨x, he, hv, hpos, by omega, hr, hp, coreChk_sub hc hmem (by simp; omega) (by simp; omega), hs, fun i hi h1 => ⟨coreChk_sub hc (fun f hf => hmem f (List.mem_of_mem_eraseIdx hf)) ?_ ?_, hm i hi⟩⟩
  · rw [List.length_eraseIdx, if_pos (by simpa using hi)]; simp; omega
  · rw [List.length_eraseIdx, if_pos (by simpa using hi)]; simp; omega
end Venn
