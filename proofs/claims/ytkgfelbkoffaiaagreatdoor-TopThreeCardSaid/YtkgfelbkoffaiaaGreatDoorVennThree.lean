/-
  THE PLAIN SIDE of TopThree: three ways to know whether there is a model.
-/
import Derived.Test.YtkgfelbkoffaiaaGreatDoorVennAlls
namespace Venn
/-- One of so many cubes' rows fit. -/
def pieceV (l : List Atom) (u : Int) (L : List (List Int)) : Bool := L.any fun c => decide (0 < manyFit u (linesV l c))
theorem manyFit_pos {u : Int} {r : List (List Int)} : 0 < manyFit u r ↔ ∃ n ∈ allC u, rowsSo r n = true := by
  unfold manyFit
  constructor
  · intro h
    have h' : 0 < ((allC u).filter (rowsSo r)).length := by omega
    obtain ⟨x, hx⟩ := List.exists_mem_of_length_pos h'
    obtain ⟨h1, h2⟩ := List.mem_filter.1 hx
    exact ⟨x, h1, h2⟩
  · rintro ⟨n, h1, h2⟩
    have := List.length_pos_of_mem (List.mem_filter.2 ⟨h1, h2⟩)
    omega
theorem three_model {f : Form} {u : Int} (hc : cubesErr f = 0) (hu : things u = true) :
    worldsChk f u = 0 ∧ ((modelErr f u = 0 ∧ 0 < worldsV f u ∧ openV [f] u = true ∧ pieceV f.atoms u (cubesV f) = true) ∨ (modelErr f u = 5 ∧ ¬ 0 < worldsV f u ∧ openV [f] u = false ∧ pieceV f.atoms u (cubesV f) = false)) := by
  have hf := (cubesErr_form hc).1
  have hw : worldsChk f u = 0 := by unfold worldsChk; rw [if_pos hf, if_pos hu]
  refine ⟨hw, ?_⟩
  obtain ⟨m1, m2⟩ := worlds_model hw
  obtain ⟨_, n0, _⟩ := worlds_facts hw
  cases ho : modelO f u with
  | some n =>
    have h0 : modelErr f u = 0 := by unfold modelErr; rw [if_pos hc, if_pos hu, ho]
    obtain ⟨_, h2, h3, h4⟩ := model_zero h0
    have hm := fieldsOf_mem h2
    rw [h3] at hm
    refine .inl ⟨h0, by have := m1 h0; omega, ?_, ?_⟩
    · unfold openV
      rw [List.any_eq_true]
      refine ⟨_, hm, ?_⟩
      unfold formsTrue
      rw [List.all_cons, List.all_nil, formTrue_made hf h2, h4]
      rfl
    · unfold modelO at ho
      obtain ⟨c, hcL, hn, hr⟩ := firstM_some ho
      unfold pieceV
      rw [List.any_eq_true]
      exact ⟨c, hcL, decide_eq_true (manyFit_pos.2 ⟨n, hn, hr⟩)⟩
  | none =>
    have h5 : modelErr f u = 5 := by unfold modelErr; rw [if_pos hc, if_pos hu, ho]
    refine .inr ⟨h5, by have := m2 h5; omega, ?_, ?_⟩
    · unfold openV
      rw [List.any_eq_false]
      intro x hx
      obtain ⟨h1, h2⟩ := made_allC hu hx
      unfold formsTrue
      rw [List.all_cons, List.all_nil, model_five h5 hf h1 h2]
      simp
    · unfold modelO at ho
      have h := firstM_none ho
      unfold pieceV
      rw [List.any_eq_false]
      intro c hcL hp
      obtain ⟨n, hn, hr⟩ := manyFit_pos.1 (of_decide_eq_true hp)
      rw [h c hcL n hn] at hr
      cases hr
theorem piece_step (l : List Atom) (u : Int) (L : List (List Int)) (k : Nat) {c : List Int} (h : L[k]? = some c) : pieceV l u (L.take (k + 1)) = (pieceV l u (L.take k) || decide (0 < manyFit u (linesV l c))) := by
  unfold pieceV
  rw [List.take_add_one, h, List.any_append]
  simp
theorem coreChk_one {f : Form} {u : Int} (hf : formChk f = 0) (hu : things u = true) : coreChk [f] u = 0 := by
  unfold coreChk
  rw [if_neg (by simp), if_neg (by simp)]
  have e : formsChk [f] = 0 := by
    unfold formsChk
    simp [hf]
    try rfl
  rw [if_pos e, if_pos hu]
end Venn
