/-
  THE PLAIN SIDE of ModelMany: a name that has at least so many things.
  THE PLAIN SIDE of ModelHolds: in a model it holds, where there is none it never does; what is sure holds.
  THE PLAIN SIDE of package least: how few things do.
-/
import Derived.Test.YtjnjgcibhjdmdaaGreatDoorVennC
namespace Venn
def manyF (name n : Int) : Form := ⟨[⟨3, [name], [], n⟩], [0]⟩
def nameW (w : World) (name : Nat) : Int := match name with | 0 => w.a | 1 => w.b | _ => w.c
theorem none_five : modelErr ⟨[], []⟩ 1 = 5 := by decide +kernel
/-- OF A NAME THAT HAS AT LEAST SO MANY THINGS there is a model of as many, and of one fewer there is none, and its opposite has one. -/
theorem many_all : ∀ (m : Fin 3) (k : Fin 6), modelErr (manyF (m.val : Nat) ((k.val : Nat) + 1)) ((k.val : Nat) + 1) = 0 ∧ nameW (modelV (manyF (m.val : Nat) ((k.val : Nat) + 1)) ((k.val : Nat) + 1)) m.val + 1 = ((2 ^ (k.val + 1) : Nat) : Int) ∧ modelErr (manyF (m.val : Nat) ((k.val : Nat) + 1)) (k.val : Nat) = 5 ∧ sureErr (manyF (m.val : Nat) ((k.val : Nat) + 1)) (k.val : Nat) = 0 ∧ sureV (manyF (m.val : Nat) ((k.val : Nat) + 1)) (k.val : Nat) = false := by decide +kernel
def nameH (name : Int) (w : World) : Int := if name = 0 then w.a else if name = 1 then w.b else w.c
theorem many_name {name : Int} (h : name = 0 ∨ name = 1 ∨ name = 2) (k : Fin 6) : modelErr (manyF name ((k.val : Nat) + 1)) ((k.val : Nat) + 1) = 0 ∧ nameH name (modelV (manyF name ((k.val : Nat) + 1)) ((k.val : Nat) + 1)) + 1 = ((2 ^ (k.val + 1) : Nat) : Int) ∧ modelErr (manyF name ((k.val : Nat) + 1)) (k.val : Nat) = 5 ∧ sureErr (manyF name ((k.val : Nat) + 1)) (k.val : Nat) = 0 ∧ sureV (manyF name ((k.val : Nat) + 1)) (k.val : Nat) = false := by
  rcases h with rfl | rfl | rfl
  · exact many_all 0 k
  · exact many_all 1 k
  · exact many_all 2 k
end Venn

namespace Venn
theorem one_two : modelErr (manyF 0 2) 2 = 0 ∧ (modelV (manyF 0 2) 2).things = 2 ∧ (modelV (manyF 0 2) 2).a = 3 ∧ (modelV (manyF 0 2) 2).b = 3 ∧ modelErr (manyF 0 2) 1 = 5 := by decide +kernel
/-- No fault: a model. -/
theorem model_zero {f : Form} {u : Int} (h : modelErr f u = 0) : formChk f = 0 ∧ worldChk (modelV f u) = 0 ∧ (modelV f u).things = u ∧ formTrue f (modelV f u) = true := by
  unfold modelErr at h
  by_cases hz : cubesErr f = 0
  · rw [if_pos hz] at h
    by_cases hu : things u = true
    · rw [if_pos hu] at h
      cases hn : modelO f u with
      | none => rw [hn] at h; cases h
      | some n =>
        have e : modelV f u = made n := by unfold modelV; rw [if_pos hz, if_pos hu, hn]
        rw [e]
        obtain ⟨h1, h2, h3⟩ := model_holds hz hu hn
        exact ⟨(cubesErr_form hz).1, h1, h2, h3⟩
    · rw [if_neg hu] at h; cases h
  · rw [if_neg hz] at h
    exact absurd h hz
/-- None: it never holds. -/
theorem model_five {f : Form} {u : Int} (h : modelErr f u = 5) (hf : formChk f = 0) {w : World} (hw : worldChk w = 0) (ht : w.things = u) : formTrue f w = false := by
  unfold modelErr at h
  by_cases hz : cubesErr f = 0
  · rw [if_pos hz] at h
    by_cases hu : things u = true
    · rw [if_pos hu] at h
      cases hn : modelO f u with
      | none => exact model_none hz hn hw ht
      | some n => rw [hn] at h; cases h
    · rw [if_neg hu] at h; cases h
  · rw [if_neg hz] at h
    unfold cubesErr at h
    rw [if_pos hf] at h
    cases hx : cubesO f.code with
    | none => rw [hx] at h; cases h
    | some l => rw [hx] at h; cases h
theorem again_zero {f : Form} {u : Int} (h : againstErr f u = 0) : formChk f = 0 ∧ worldChk (againstV f u) = 0 ∧ (againstV f u).things = u ∧ formTrue f (againstV f u) = false := by
  unfold againstErr at h
  by_cases hn : negChk f = 0
  · rw [if_pos hn] at h
    have e : againstV f u = modelV (negF f) u := by unfold againstV; rw [if_pos hn]
    have hf : formChk f = 0 := by
      unfold negChk at hn
      by_cases hf : formChk f = 0
      · exact hf
      · rw [if_neg hf] at hn; exact absurd hn hf
    obtain ⟨_, h2, h3, h4⟩ := model_zero h
    rw [e]
    refine ⟨hf, h2, h3, ?_⟩
    rw [negF_true hf] at h4
    simpa using h4
  · rw [if_neg hn] at h
    exact absurd h hn
theorem again_five {f : Form} {u : Int} (h : againstErr f u = 5) (hf : formChk f = 0) {w : World} (hw : worldChk w = 0) (ht : w.things = u) : formTrue f w = true := by
  unfold againstErr at h
  by_cases hn : negChk f = 0
  · rw [if_pos hn] at h
    have hl : f.code.length < 20 := by
      have hn' := hn
      unfold negChk at hn'
      rw [if_pos hf] at hn'
      obtain ⟨_, _, _, h4, _⟩ := formChk_parts hf
      by_cases h20 : f.code.length = 20
      · rw [if_pos h20] at hn'; cases hn'
      · omega
    have := model_five h (negF_chk hf hl) hw ht
    rw [negF_true hf] at this
    simpa using this
  · rw [if_neg hn] at h
    unfold negChk at h
    rw [if_pos hf] at h
    split at h <;> cases h
/-- A formula's own answer. -/
theorem holds_parts {f : Form} {w : World} (h : formHoldsChk f w = 0) : formChk f = 0 ∧ worldChk w = 0 ∧ formHoldsV f w = formTrue f w := by
  have e : formHoldsV f w = formTrue f w := by unfold formHoldsV; rw [if_pos h]
  unfold formHoldsChk at h
  by_cases hf : formChk f = 0
  · rw [if_pos hf] at h
    exact ⟨hf, h, e⟩
  · rw [if_neg hf] at h
    exact absurd h hf
theorem holds_mk {f : Form} {w : World} (hf : formChk f = 0) (hw : worldChk w = 0) : formHoldsChk f w = 0 ∧ formHoldsV f w = formTrue f w := by
  have h : formHoldsChk f w = 0 := by unfold formHoldsChk; rw [if_pos hf]; exact hw
  exact ⟨h, (holds_parts h).2.2⟩
/-- Sure without a fault: whether there is none against it. -/
theorem sure_zero {f : Form} {u : Int} (h : sureErr f u = 0) : formChk f = 0 ∧ (againstErr f u = 0 ∨ againstErr f u = 5) ∧ sureV f u = decide (againstErr f u = 5) := by
  unfold sureErr at h
  by_cases hf : formChk f = 0
  · rw [if_pos hf] at h
    refine ⟨hf, ?_, by unfold sureV; rw [if_pos hf]⟩
    by_cases ha : againstErr f u = 0 ∨ againstErr f u = 5
    · exact ha
    · rw [if_neg ha] at h
      exact .inl h
  · rw [if_neg hf] at h
    exact absurd h hf
end Venn

namespace Venn
/-- Where the first answer is that is true. -/
def idxB : List Bool → Int → Int
  | [], _ => -1
  | x :: r, k => if x = true then k else idxB r (k + 1)
def lowL (f : Form) : List Bool := if cubesErr f = 0 then (List.range 7).map (fun u => decide (modelErr f ((u : Nat) : Int) = 0)) else []
def lowE (f : Form) : Int := if cubesErr f = 0 then (if idxB (lowL f) 0 < 0 then 5 else 0) else cubesErr f
def lowV (f : Form) : Int := if cubesErr f = 0 then (if idxB (lowL f) 0 < 0 then 0 else idxB (lowL f) 0) else 0
def firmE (f : Form) : Int := if negChk f = 0 then cubesErr (negF f) else negChk f
def firmV (f : Form) : Bool := decide (firmE f = 0) && (List.range 7).all (fun u => decide (modelErr (negF f) ((u : Nat) : Int) = 5))
theorem worldChk_things {w : World} (h : worldChk w = 0) : 0 ≤ w.things ∧ w.things ≤ 6 := by
  obtain ⟨h0, _⟩ := worldChk_iff.1 h
  unfold things at h0
  simp at h0
  exact h0
theorem things_lt {k : Nat} (h : k < 7) : things (k : Int) = true := by unfold things; simp; omega
/-- A formula that stands: of its cubes there are too many, or none is wrong. -/
theorem cubesErr_four {f : Form} (h : formChk f = 0) : cubesErr f = 0 ∨ cubesErr f = 4 := by
  unfold cubesErr
  rw [if_pos h]
  cases cubesO f.code with
  | none => exact .inr rfl
  | some l => exact .inl rfl
theorem cubesErr_chk {f : Form} (h : formChk f ≠ 0) : cubesErr f = formChk f := by unfold cubesErr; rw [if_neg h]
theorem modelErr_lt {f : Form} {k : Nat} (h : k < 7) (hc : cubesErr f = 0) : modelErr f (k : Int) = 0 ∨ modelErr f (k : Int) = 5 := by
  unfold modelErr
  rw [if_pos hc, if_pos (things_lt h)]
  cases modelO f (k : Int) with
  | none => exact .inr rfl
  | some l => exact .inl rfl
theorem modelErr_bad {f : Form} {u : Int} (hc : ¬ cubesErr f = 0) : modelErr f u = cubesErr f := by unfold modelErr; rw [if_neg hc]
theorem lowL_step (f : Form) (hc : cubesErr f = 0) {k : Nat} (h : k < 7) : (lowL f).take (k + 1) = (lowL f).take k ++ [decide (modelErr f (k : Int) = 0)] := by
  unfold lowL
  rw [if_pos hc]
  rw [List.take_add_one, List.getElem?_map, List.getElem?_range h]
  rfl
theorem lowL_len (f : Form) (hc : cubesErr f = 0) : (lowL f).length = 7 := by unfold lowL; rw [if_pos hc]; simp
theorem lowL_bad {f : Form} (hc : ¬ cubesErr f = 0) : lowL f = [] := by unfold lowL; rw [if_neg hc]
theorem lowL_get (f : Form) (hc : cubesErr f = 0) {k : Nat} (h : k < 7) : (lowL f)[k]? = some (decide (modelErr f (k : Int) = 0)) := by
  unfold lowL
  rw [if_pos hc, List.getElem?_map, List.getElem?_range h]
  rfl
/-- A round of Firm. -/
theorem firm_round {f : Form} {k : Nat} (h : k < 7) : sureErr f (k : Int) = firmE f ∧ (firmE f = 0 → sureV f (k : Int) = decide (modelErr (negF f) (k : Int) = 5)) := by
  unfold sureErr sureV againstErr firmE
  by_cases hf : formChk f = 0
  · rw [if_pos hf, if_pos hf]
    by_cases hn : negChk f = 0
    · rw [if_pos hn, if_pos hn]
      by_cases hc : cubesErr (negF f) = 0
      · rw [if_pos (modelErr_lt h hc), hc]
        exact ⟨rfl, fun _ => rfl⟩
      · rw [modelErr_bad hc]
        have hl : f.code.length < 20 := by
          have hn' := hn
          unfold negChk at hn'
          rw [if_pos hf] at hn'
          obtain ⟨_, _, _, h4, _⟩ := formChk_parts hf
          by_cases h20 : f.code.length = 20
          · rw [if_pos h20] at hn'; cases hn'
          · omega
        have h4 := cubesErr_four (negF_chk hf hl)
        rw [if_neg (by omega)]
        exact ⟨rfl, fun _ => rfl⟩
    · rw [if_neg hn, if_neg hn]
      have e : negChk f = 4 := by
        unfold negChk at hn ⊢
        rw [if_pos hf] at hn ⊢
        by_cases h20 : f.code.length = 20
        · rw [if_pos h20]
        · rw [if_neg h20] at hn; exact absurd rfl hn
      rw [e]
      exact ⟨rfl, fun h => by cases h⟩
  · have e : negChk f = formChk f := by unfold negChk; rw [if_neg hf]
    rw [if_neg hf, if_neg hf, e, if_neg hf]
    exact ⟨rfl, fun h => absurd h hf⟩
theorem firm_stop {f : Form} {k : Nat} (h : k < 7) (h5 : firmE f ≠ 0 ∨ modelErr (negF f) (k : Int) ≠ 5) : firmV f = false := by
  unfold firmV
  rcases h5 with h5 | h5
  · rw [decide_eq_false h5, Bool.false_and]
  · rw [Bool.and_eq_false_iff]
    right
    rw [List.all_eq_false]
    exact ⟨k, List.mem_range.2 h, by rw [decide_eq_false h5]; simp⟩
theorem firm_end {f : Form} (h0 : firmE f = 0) (h : ∀ i, i < 7 → modelErr (negF f) ((i : Nat) : Int) = 5) : firmV f = true := by
  unfold firmV
  rw [decide_eq_true h0, Bool.true_and, List.all_eq_true]
  intro x hx
  exact decide_eq_true (h x (List.mem_range.1 hx))
theorem idxB_none : ∀ (L : List Bool) (k : Int), 0 ≤ k → (∀ x ∈ L, x = false) → idxB L k = -1
  | [], _, _, _ => rfl
  | x :: r, k, hk, h => by
    have hx : x = false := h x (List.mem_cons_self ..)
    rw [idxB, hx, if_neg (by simp)]
    exact idxB_none r (k + 1) (by omega) fun y hy => h y (List.mem_cons_of_mem _ hy)
/-- The first that is true, or none. -/
theorem idxB_spec : ∀ (L : List Bool) (k : Nat), (idxB L (k : Int) = -1 ∧ ∀ x ∈ L, x = false) ∨ ∃ j, j < L.length ∧ idxB L (k : Int) = ((k + j : Nat) : Int) ∧ L[j]? = some true ∧ ∀ i, i < j → L[i]? = some false
  | [], k => .inl ⟨rfl, by simp⟩
  | x :: r, k => by
    cases x with
    | true => exact .inr ⟨0, by simp, by rw [idxB, if_pos rfl]; rfl, rfl, fun i hi => by omega⟩
    | false =>
      have e : idxB (false :: r) (k : Int) = idxB r ((k + 1 : Nat) : Int) := by rw [idxB, if_neg (by simp)]; rfl
      rw [e]
      rcases idxB_spec r (k + 1) with ⟨h1, h2⟩ | ⟨j, h1, h2, h3, h4⟩
      · exact .inl ⟨h1, fun y hy => by rcases List.mem_cons.1 hy with h | h; exact h; exact h2 y h⟩
      · refine .inr ⟨j + 1, by simp; omega, by rw [h2]; congr 1; omega, by simpa using h3, fun i hi => ?_⟩
        cases i with
        | zero => rfl
        | succ i => simpa using h4 i (by omega)
/-- What is least: with fewer there is none. -/
theorem low_spec {f : Form} (h : lowE f = 0) : cubesErr f = 0 ∧ (lowL f).length = 7 ∧ ∃ n : Nat, n < 7 ∧ lowV f = (n : Int) ∧ (lowL f)[n]? = some true ∧ modelErr f (n : Int) = 0 ∧ ∀ i, i < n → (lowL f)[i]? = some false ∧ modelErr f ((i : Nat) : Int) = 5 := by
  unfold lowE at h
  by_cases hc : cubesErr f = 0
  · rw [if_pos hc] at h
    refine ⟨hc, lowL_len f hc, ?_⟩
    rcases idxB_spec (lowL f) 0 with ⟨h1, _⟩ | ⟨j, h1, h2, h3, h4⟩
    · rw [show ((0 : Nat) : Int) = 0 from rfl] at h1
      rw [h1, if_pos (by omega)] at h
      cases h
    · rw [show ((0 : Nat) : Int) = 0 from rfl] at h2
      rw [lowL_len f hc] at h1
      have hv : lowV f = (j : Int) := by
        unfold lowV
        rw [if_pos hc, h2, if_neg (by omega)]
        omega
      refine ⟨j, h1, hv, h3, ?_, fun i hi => ⟨h4 i hi, ?_⟩⟩
      · have := lowL_get f hc h1
        rw [h3] at this
        simpa using this.symm
      · have := lowL_get f hc (show i < 7 by omega)
        rw [h4 i hi] at this
        have h0 : modelErr f (i : Int) ≠ 0 := by simpa using this.symm
        rcases modelErr_lt (f := f) (show i < 7 by omega) hc with h | h
        · exact absurd h h0
        · exact h
  · rw [if_neg hc] at h
    exact absurd h hc
/-- WITH FEWER THERE IS NONE: no world of fewer things holds it. -/
theorem low_world {f : Form} {n : Nat} (hc : cubesErr f = 0) (h : ∀ i, i < n → modelErr f ((i : Nat) : Int) = 5) {w : World} (hw : worldChk w = 0) (ht : formTrue f w = true) : (n : Int) ≤ w.things := by
  by_cases hlt : (n : Int) ≤ w.things
  · exact hlt
  · exfalso
    obtain ⟨h0, _⟩ := worldChk_things hw
    have := model_five (h w.things.toNat (by omega)) (cubesErr_form hc).1 hw (by omega)
    rw [this] at ht
    cases ht
/-- WHAT IS FIRM HOLDS in each world. -/
theorem firm_world {f : Form} (h : firmV f = true) {w : World} (hw : worldChk w = 0) (hf : formChk f = 0) : formTrue f w = true := by
  unfold firmV at h
  rw [Bool.and_eq_true, decide_eq_true_eq, List.all_eq_true] at h
  obtain ⟨h0, h1⟩ := h
  obtain ⟨ht, ht6⟩ := worldChk_things hw
  have hn : negChk f = 0 := by
    unfold firmE at h0
    by_cases hn : negChk f = 0
    · exact hn
    · rw [if_neg hn] at h0; exact h0
  have h5 := h1 w.things.toNat (List.mem_range.2 (by omega))
  rw [decide_eq_true_eq, show ((w.things.toNat : Nat) : Int) = w.things by omega] at h5
  have ha : againstErr f w.things = 5 := by unfold againstErr; rw [if_pos hn]; exact h5
  exact again_five ha hf hw rfl
end Venn
