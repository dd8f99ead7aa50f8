/-
  THE PLAIN SIDE of WorldsAll: where it holds and where it does not is all.
-/
import Derived.Test.YtkgfelbkoffaiaaGreatDoorVennLow
import Derived.Test.YtkgfelbkoffaiaaGreatDoorAlls
namespace Venn
def wsum (p : List Int → Bool) : List (List Int) → Int
  | [] => 0
  | x :: l => (if p x = true then ways x else 0) + wsum p l
theorem worldsGo_wsum (f : Form) (l : List (List Int)) : worldsGo f l = wsum (fun x => formTrue f (made x)) l := by
  have : ∀ (l : List (List Int)) (s : Int), l.foldl (fun s x => if formTrue f (made x) = true then s + ways x else s) s = s + wsum (fun x => formTrue f (made x)) l := by
    intro l
    induction l with
    | nil => intro s; simp [wsum]
    | cons x l ih =>
      intro s
      rw [List.foldl_cons, ih, wsum]
      split <;> omega
  unfold worldsGo
  rw [this l 0]
  omega
theorem wsum_nonneg {p : List Int → Bool} : ∀ (l : List (List Int)), (∀ x ∈ l, 1 ≤ ways x) → 0 ≤ wsum p l
  | [], _ => Int.le_refl _
  | x :: l, h => by
    have h1 := h x (List.mem_cons_self ..)
    have h2 := wsum_nonneg (p := p) l fun y hy => h y (List.mem_cons_of_mem _ hy)
    rw [wsum]
    split <;> omega
theorem wsum_compl {p q : List Int → Bool} : ∀ (l : List (List Int)), (∀ x ∈ l, q x = !p x) → wsum p l + wsum q l = wsum (fun _ => true) l
  | [], _ => rfl
  | x :: l, h => by
    have h1 := h x (List.mem_cons_self ..)
    have h2 := wsum_compl l fun y hy => h y (List.mem_cons_of_mem _ hy)
    rw [wsum, wsum, wsum, h1, ← h2]
    cases p x <;> simp <;> omega
theorem wsum_mem {p : List Int → Bool} {x : List Int} (hp : p x = true) : ∀ (l : List (List Int)), (∀ x ∈ l, 1 ≤ ways x) → x ∈ l → ways x ≤ wsum p l
  | y :: l, h, hx => by
    have h1 := h y (List.mem_cons_self ..)
    have h0 := wsum_nonneg (p := p) l fun z hz => h z (List.mem_cons_of_mem _ hz)
    rw [wsum]
    rcases List.mem_cons.1 hx with rfl | hx
    · rw [if_pos hp]; omega
    · have := wsum_mem hp l (fun z hz => h z (List.mem_cons_of_mem _ hz)) hx
      split <;> omega
theorem wsum_zero {p : List Int → Bool} : ∀ (l : List (List Int)), (∀ x ∈ l, p x = false) → wsum p l = 0
  | [], _ => rfl
  | x :: l, h => by
    rw [wsum, h x (List.mem_cons_self ..), wsum_zero l fun y hy => h y (List.mem_cons_of_mem _ hy)]
    rfl
set_option maxRecDepth 1000000 in
theorem wsum_total : ∀ (u : Fin 7), wsum (fun _ => true) (allG 7 u.val) = ((8 ^ u.val : Nat) : Int) := by decide +kernel
theorem wsum_all {u : Int} (h : things u = true) : wsum (fun _ => true) (allC u) = allV u := by
  have hu := h
  simp only [things, Bool.and_eq_true, decide_eq_true_eq] at hu
  unfold allV
  rw [if_pos h]
  exact wsum_total ⟨u.toNat, by omega⟩
theorem allV_le {u : Int} (h : things u = true) : allV u ≤ 262144 := by
  have hu := h
  simp only [things, Bool.and_eq_true, decide_eq_true_eq] at hu
  unfold allV
  rw [if_pos h]
  rcases (by omega : u = 0 ∨ u = 1 ∨ u = 2 ∨ u = 3 ∨ u = 4 ∨ u = 5 ∨ u = 6) with rfl | rfl | rfl | rfl | rfl | rfl | rfl
  all_goals decide
theorem worlds_parts {f : Form} {u : Int} (h : worldsChk f u = 0) : formChk f = 0 ∧ things u = true ∧ allErr u = 0 ∧ worldsV f u = wsum (fun x => formTrue f (made x)) (allC u) := by
  have h' := h
  unfold worldsChk at h'
  by_cases hf : formChk f = 0
  · rw [if_pos hf] at h'
    by_cases hu : things u = true
    · refine ⟨hf, hu, by unfold allErr; rw [if_pos hu], ?_⟩
      unfold worldsV
      rw [if_pos h, worldsGo_wsum]
    · rw [if_neg hu] at h'; cases h'
  · rw [if_neg hf] at h'
    exact absurd h' hf
theorem compl_not {f : Form} {u : Int} (h : worldsChk f u = 0) : wsum (fun x => formTrue f (made x)) (allC u) + wsum (fun x => !formTrue f (made x)) (allC u) = allV u := by
  obtain ⟨_, hu, _⟩ := worlds_parts h
  rw [← wsum_all hu]
  exact wsum_compl _ fun _ _ => rfl
/-- WHERE IT HOLDS AND WHERE IT DOES NOT IS ALL. -/
theorem worlds_facts {f : Form} {u : Int} (h : worldsChk f u = 0) : allErr u = 0 ∧ 0 ≤ worldsV f u ∧ worldsV f u ≤ allV u ∧ allV u ≤ 262144 := by
  obtain ⟨hf, hu, he, hv⟩ := worlds_parts h
  have h1 := compl_not h
  have hw := fun x hx => ways_pos_all hu (x := x) hx
  have h2 := wsum_nonneg (p := fun x => formTrue f (made x)) _ hw
  have h3 := wsum_nonneg (p := fun x => !formTrue f (made x)) _ hw
  exact ⟨he, by omega, by omega, allV_le hu⟩
theorem worlds_neg {f : Form} {u : Int} (h : worldsChk f u = 0) (hn : negChk f = 0) : worldsChk (negF f) u = 0 ∧ worldsV f u + worldsV (negF f) u = allV u := by
  obtain ⟨hf, hu, he, hv⟩ := worlds_parts h
  have hl : f.code.length < 20 := by
    have hn' := hn
    unfold negChk at hn'
    rw [if_pos hf] at hn'
    obtain ⟨_, _, _, h4, _⟩ := formChk_parts hf
    by_cases h20 : f.code.length = 20
    · rw [if_pos h20] at hn'; cases hn'
    · omega
  have hg : worldsChk (negF f) u = 0 := by
    unfold worldsChk
    rw [if_pos (negF_chk hf hl), if_pos hu]
  refine ⟨hg, ?_⟩
  rw [hv, (worlds_parts hg).2.2.2, ← wsum_all hu]
  exact wsum_compl _ fun x _ => negF_true hf (made x)
theorem worlds_model {f : Form} {u : Int} (h : worldsChk f u = 0) : (modelErr f u = 0 → worldsV f u ≠ 0) ∧ (modelErr f u = 5 → worldsV f u = 0) := by
  obtain ⟨hf, hu, he, hv⟩ := worlds_parts h
  constructor
  · intro h0
    obtain ⟨_, h2, h3, h4⟩ := model_zero h0
    have hm := fieldsOf_mem h2
    rw [h3] at hm
    have h1 := ways_pos_all hu hm
    have h5 := wsum_mem (p := fun x => formTrue f (made x)) (x := fieldsOf (modelV f u)) (by rw [formTrue_made hf h2]; exact h4) _ (fun x hx => ways_pos_all hu (x := x) hx) hm
    rw [hv]
    omega
  · intro h5
    rw [hv]
    refine wsum_zero _ fun x hx => ?_
    obtain ⟨h1, h2⟩ := made_allC hu hx
    exact model_five h5 hf h1 h2
theorem worlds_alike {f : Form} {u : Int} {w : World} (h : worldsChk f u = 0) (hw : worldChk w = 0) (ht : w.things = u) : 1 ≤ alikeW w ∧ alikeW w ≤ allV u ∧ (formTrue f w = true → alikeW w ≤ worldsV f u) ∧ (formTrue f w = false → alikeW w ≤ allV u - worldsV f u) := by
  obtain ⟨hf, hu, he, hv⟩ := worlds_parts h
  have hm := fieldsOf_mem hw
  rw [ht] at hm
  have e : alikeW w = ways (fieldsOf w) := by unfold alikeW; rw [if_pos hw]
  have hp := fun x hx => ways_pos_all hu (x := x) hx
  have h1 := compl_not h
  have h2 := wsum_mem (p := fun _ => true) (x := fieldsOf w) rfl _ hp hm
  rw [wsum_all hu] at h2
  rw [e, hv]
  refine ⟨hp _ hm, h2, fun hT => ?_, fun hF => ?_⟩
  · exact wsum_mem (p := fun x => formTrue f (made x)) (by rw [formTrue_made hf hw]; exact hT) _ hp hm
  · have := wsum_mem (p := fun x => !formTrue f (made x)) (x := fieldsOf w) (by rw [formTrue_made hf hw, hF]; rfl) _ hp hm
    omega
theorem worlds_lits : allV 2 = 64 ∧ allErr 2 = 0 ∧ alikeW ⟨2, 1, 0, 0⟩ = 2 ∧ worldChk ⟨2, 1, 0, 0⟩ = 0 := by decide +kernel
end Venn
