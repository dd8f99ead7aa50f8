/-
  THE PLAIN SIDE of ModelHolds: in a model it holds, where there is none it never does; what is sure holds.
-/
import Derived.Test.YtkgfelbkoffaiaaGreatDoorVennMany
namespace Venn
theorem one_two : modelErr (manyF 0 2) 2 = 0 ∧ (modelV (manyF 0 2) 2).things = 2 ∧ (modelV (manyF 0 2) 2).a = 3 ∧ (modelV (manyF 0 2) 2).b = 3 ∧ modelErr (manyF 0 2) 1 = 5 := by decide +kernel
/-- No fault: a model. -/
theorem model_zero {f : Form} {u : Int} (h : modelErr f u = 0) : formChk f = 0 ∧ worldChk (modelV f u) = 0 ∧ (modelV f u).things = u ∧ formTrue f (modelV f u) = true := by
  unfold modelErr at h
  by_cases hz : cubesErr f = 0
  · rw [if_pos hz] at h
    by_cases hu : things u = true
    · rw [if_pos hu] at h
      cases hn : modelO f u with
      | none => rw [hn] at h; cases h
      | some n =>
        have e : modelV f u = made n := by unfold modelV; rw [if_pos hz, if_pos hu, hn]
        rw [e]
        obtain ⟨h1, h2, h3⟩ := model_holds hz hu hn
        exact ⟨(cubesErr_form hz).1, h1, h2, h3⟩
    · rw [if_neg hu] at h; cases h
  · rw [if_neg hz] at h
    exact absurd h hz
/-- None: it never holds. -/
theorem model_five {f : Form} {u : Int} (h : modelErr f u = 5) (hf : formChk f = 0) {w : World} (hw : worldChk w = 0) (ht : w.things = u) : formTrue f w = false := by
  unfold modelErr at h
  by_cases hz : cubesErr f = 0
  · rw [if_pos hz] at h
    by_cases hu : things u = true
    · rw [if_pos hu] at h
      cases hn : modelO f u with
      | none => exact model_none hz hn hw ht
      | some n => rw [hn] at h; cases h
    · rw [if_neg hu] at h; cases h
  · rw [if_neg hz] at h
    unfold cubesErr at h
    rw [if_pos hf] at h
    cases hx : cubesO f.code with
    | none => rw [hx] at h; cases h
    | some l => rw [hx] at h; cases h
theorem again_zero {f : Form} {u : Int} (h : againstErr f u = 0) : formChk f = 0 ∧ worldChk (againstV f u) = 0 ∧ (againstV f u).things = u ∧ formTrue f (againstV f u) = false := by
  unfold againstErr at h
  by_cases hn : negChk f = 0
  · rw [if_pos hn] at h
    have e : againstV f u = modelV (negF f) u := by unfold againstV; rw [if_pos hn]
    have hf : formChk f = 0 := by
      unfold negChk at hn
      by_cases hf : formChk f = 0
      · exact hf
      · rw [if_neg hf] at hn; exact absurd hn hf
    obtain ⟨_, h2, h3, h4⟩ := model_zero h
    rw [e]
    refine ⟨hf, h2, h3, ?_⟩
    rw [negF_true hf] at h4
    simpa using h4
  · rw [if_neg hn] at h
    exact absurd h hn
theorem again_five {f : Form} {u : Int} (h : againstErr f u = 5) (hf : formChk f = 0) {w : World} (hw : worldChk w = 0) (ht : w.things = u) : formTrue f w = true := by
  unfold againstErr at h
  by_cases hn : negChk f = 0
  · rw [if_pos hn] at h
    have hl : f.code.length < 20 := by
      have hn' := hn
      unfold negChk at hn'
      rw [if_pos hf] at hn'
      obtain ⟨_, _, _, h4, _⟩ := formChk_parts hf
      by_cases h20 : f.code.length = 20
      · rw [if_pos h20] at hn'; cases hn'
      · omega
    have := model_five h (negF_chk hf hl) hw ht
    rw [negF_true hf] at this
    simpa using this
  · rw [if_neg hn] at h
    unfold negChk at h
    rw [if_pos hf] at h
    split at h <;> cases h
/-- A formula's own answer. -/
theorem holds_parts {f : Form} {w : World} (h : formHoldsChk f w = 0) : formChk f = 0 ∧ worldChk w = 0 ∧ formHoldsV f w = formTrue f w := by
  have e : formHoldsV f w = formTrue f w := by unfold formHoldsV; rw [if_pos h]
  unfold formHoldsChk at h
  by_cases hf : formChk f = 0
  · rw [if_pos hf] at h
    exact ⟨hf, h, e⟩
  · rw [if_neg hf] at h
    exact absurd h hf
theorem holds_mk {f : Form} {w : World} (hf : formChk f = 0) (hw : worldChk w = 0) : formHoldsChk f w = 0 ∧ formHoldsV f w = formTrue f w := by
  have h : formHoldsChk f w = 0 := by unfold formHoldsChk; rw [if_pos hf]; exact hw
  exact ⟨h, (holds_parts h).2.2⟩
/-- Sure without a fault: whether there is none against it. -/
theorem sure_zero {f : Form} {u : Int} (h : sureErr f u = 0) : formChk f = 0 ∧ (againstErr f u = 0 ∨ againstErr f u = 5) ∧ sureV f u = decide (againstErr f u = 5) := by
  unfold sureErr at h
  by_cases hf : formChk f = 0
  · rw [if_pos hf] at h
    refine ⟨hf, ?_, by unfold sureV; rw [if_pos hf]⟩
    by_cases ha : againstErr f u = 0 ∨ againstErr f u = 5
    · exact ha
    · rw [if_neg ha] at h
      exact .inl h
  · rw [if_neg hf] at h
    exact absurd h hf
end Venn
