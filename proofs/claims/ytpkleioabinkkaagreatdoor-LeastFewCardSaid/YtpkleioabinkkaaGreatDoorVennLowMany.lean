/-
  THE PLAIN SIDE of LeastMany: the least of a name that has at least so many things.
-/
import Derived.Test.YtpkleioabinkkaaGreatDoorVennLow
namespace Venn
theorem idxB_at (L : List Bool) {j : Nat} (h1 : L[j]? = some true) (h2 : ∀ i, i < j → L[i]? = some false) : idxB L 0 = (j : Int) := by
  rcases idxB_spec L 0 with ⟨_, h⟩ | ⟨m, _, h, h3, h4⟩
  · have := h true (List.mem_of_getElem? h1)
    cases this
  · rw [show ((0 : Nat) : Int) = 0 from rfl] at h
    have : m = j := by
      rcases Nat.lt_trichotomy m j with hl | hl | hl
      · have := h2 m hl
        rw [h3] at this
        cases this
      · exact hl
      · have := h4 j hl
        rw [h1] at this
        cases this
    subst this
    rw [h]
    omega
theorem low_mk {f : Form} (hc : cubesErr f = 0) {n : Nat} (hn : n < 7) (h0 : modelErr f (n : Int) = 0) (h5 : ∀ i, i < n → modelErr f ((i : Nat) : Int) = 5) : lowE f = 0 ∧ lowV f = (n : Int) := by
  have e : idxB (lowL f) 0 = (n : Int) := idxB_at _ (by rw [lowL_get f hc hn, h0]; rfl) fun i hi => by rw [lowL_get f hc (by omega), h5 i hi]; rfl
  unfold lowE lowV
  rw [if_pos hc, if_pos hc, e, if_neg (by omega), if_neg (by omega)]
  exact ⟨rfl, rfl⟩
theorem low_no {f : Form} (hc : cubesErr f = 0) (h5 : ∀ i, i < 7 → modelErr f ((i : Nat) : Int) = 5) : lowE f = 5 := by
  have e : idxB (lowL f) 0 = -1 := by
    refine idxB_none _ 0 (by omega) fun x hx => ?_
    unfold lowL at hx
    rw [if_pos hc] at hx
    obtain ⟨u, hu, rfl⟩ := List.mem_map.1 hx
    rw [h5 u (List.mem_range.1 hu)]
    rfl
  unfold lowE
  rw [if_pos hc, e, if_pos (by omega)]
theorem full_world : ∀ (k : Fin 7), worldChk ⟨((k.val : Nat) : Int), allS ((k.val : Nat) : Int), allS ((k.val : Nat) : Int), allS ((k.val : Nat) : Int)⟩ = 0 ∧ many (allS ((k.val : Nat) : Int)) = ((k.val : Nat) : Int) := by decide +kernel
theorem cubes_more : ∀ (m : Fin 3) (k : Fin 41), cubesErr (manyF ((m.val : Nat) : Int) (((k.val : Nat) : Int) - 20)) = 0 := by decide +kernel
theorem cubes_neg : ∀ (m : Fin 3), negChk (manyF ((m.val : Nat) : Int) 0) = 0 ∧ cubesErr (negF (manyF ((m.val : Nat) : Int) 0)) = 0 := by decide +kernel
theorem manyF_true {name n : Int} (hn : 0 ≤ name ∧ name ≤ 2) (w : World) : formTrue (manyF name n) w = decide (n ≤ many (w.has name)) := more_true name n hn w
theorem cubes_many {name n : Int} (hn : 0 ≤ name ∧ name ≤ 2) (hr : -20 ≤ n ∧ n ≤ 20) : cubesErr (manyF name n) = 0 := by
  have := cubes_more ⟨name.toNat, by omega⟩ ⟨(n + 20).toNat, by omega⟩
  simp only at this
  rwa [show ((name.toNat : Nat) : Int) = name by omega, show (((n + 20).toNat : Nat) : Int) - 20 = n by omega] at this
/-- In fewer things than n there is no model. -/
theorem many_five {name n : Int} (hn : 0 ≤ name ∧ name ≤ 2) (hr : -20 ≤ n ∧ n ≤ 20) {i : Nat} (hi : i < 7) (hin : (i : Int) < n) : modelErr (manyF name n) (i : Int) = 5 := by
  rcases modelErr_lt hi (cubes_many hn hr) with h | h
  · exfalso
    obtain ⟨_, h2, h3, h4⟩ := model_zero h
    rw [manyF_true hn, decide_eq_true_eq] at h4
    have := many_things (has_right h2 name)
    omega
  · exact h
theorem many_zero {name n : Int} (hn : 0 ≤ name ∧ name ≤ 2) (hr : -20 ≤ n ∧ n ≤ 20) {i : Nat} (hi : i < 7) (hin : n ≤ (i : Int)) : modelErr (manyF name n) (i : Int) = 0 := by
  rcases modelErr_lt hi (cubes_many hn hr) with h | h
  · exact h
  · exfalso
    obtain ⟨h1, h2⟩ := full_world ⟨i, hi⟩
    have := model_five h (cubesErr_form (cubes_many hn hr)).1 h1 rfl
    rw [manyF_true hn, decide_eq_false_iff_not] at this
    apply this
    have e : (World.mk (i : Int) (allS (i : Int)) (allS (i : Int)) (allS (i : Int))).has name = allS (i : Int) := by
      rcases (by omega : name = 0 ∨ name = 1 ∨ name = 2) with rfl | rfl | rfl
      all_goals rfl
    show n ≤ many ((World.mk (i : Int) (allS (i : Int)) (allS (i : Int)) (allS (i : Int))).has name)
    rw [e]
    have h2' : many (allS (i : Int)) = (i : Int) := h2
    omega
/-- AS FEW AS IT SAYS. -/
theorem least_many {name n : Int} (hn : 0 ≤ name ∧ name ≤ 2) (hr : -20 ≤ n ∧ n ≤ 20) : (6 < n → lowE (manyF name n) = 5) ∧ (n ≤ 6 → lowE (manyF name n) = 0 ∧ lowV (manyF name n) = if n < 0 then 0 else n) := by
  refine ⟨fun h => low_no (cubes_many hn hr) fun i hi => many_five hn hr hi (by omega), fun h => ?_⟩
  by_cases h0 : n < 0
  · rw [if_pos h0]
    exact low_mk (n := 0) (cubes_many hn hr) (by omega) (many_zero hn hr (by omega) (by omega)) fun i hi => by omega
  · rw [if_neg h0]
    have := low_mk (n := n.toNat) (cubes_many hn hr) (by omega) (many_zero hn hr (by omega) (by omega)) fun i hi => many_five hn hr (by omega) (by omega)
    rwa [show ((n.toNat : Nat) : Int) = n by omega] at this
theorem firm_many {name : Int} (hn : 0 ≤ name ∧ name ≤ 2) : firmE (manyF name 0) = 0 ∧ firmV (manyF name 0) = true := by
  have hc := cubes_neg ⟨name.toNat, by omega⟩
  simp only at hc
  rw [show ((name.toNat : Nat) : Int) = name by omega] at hc
  have he : firmE (manyF name 0) = 0 := by unfold firmE; rw [if_pos hc.1]; exact hc.2
  refine ⟨he, firm_end he fun i hi => ?_⟩
  rcases modelErr_lt hi hc.2 with h | h
  · exfalso
    obtain ⟨_, h2, h3, h4⟩ := model_zero h
    rw [negF_true (cubesErr_form (cubes_many hn (by omega))).1, manyF_true hn, Bool.not_eq_true', decide_eq_false_iff_not] at h4
    have := many_le ((modelV (negF (manyF name 0)) (i : Int)).has name)
    omega
  · exact h
end Venn
