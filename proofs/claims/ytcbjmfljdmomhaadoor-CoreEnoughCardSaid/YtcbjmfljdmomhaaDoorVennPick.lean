/-
  THE PLAIN SIDE of the reference's Core: what flags leave of a list, and the core's rounds.
-/
import Derived.Test.YtcbjmfljdmomhaaDoorVennP2
namespace Venn
def pick {α : Type} : List Bool → List α → List α
  | true :: g, _ :: l => pick g l
  | false :: g, x :: l => x :: pick g l
  | _, _ => []
theorem pick_map {α β : Type} (f : α → β) : ∀ (g : List Bool) (l : List α), (pick g l).map f = pick g (l.map f) := by
  intro g
  induction g with
  | nil => intro l; cases l <;> rfl
  | cons b g ih =>
    intro l
    cases l with
    | nil => cases b <;> rfl
    | cons x l => cases b <;> simp [pick, ih]
theorem pick_mem {α : Type} : ∀ (g : List Bool) (l : List α), ∀ x ∈ pick g l, x ∈ l := by
  intro g
  induction g with
  | nil => intro l x h; cases l <;> cases h
  | cons b g ih =>
    intro l x h
    cases l with
    | nil => cases b <;> cases h
    | cons y l =>
      cases b
      · simp only [pick, List.mem_cons] at h ⊢
        rcases h with h | h
        · exact .inl h
        · exact .inr (ih l x h)
      · exact List.mem_cons_of_mem _ (ih l x h)
theorem pick_len {α : Type} : ∀ (g : List Bool) (l : List α), (pick g l).length ≤ l.length := by
  intro g
  induction g with
  | nil => intro l; cases l <;> simp [pick]
  | cons b g ih =>
    intro l
    cases l with
    | nil => cases b <;> simp [pick]
    | cons y l =>
      have := ih l
      cases b <;> simp only [pick, List.length_cons] <;> omega
theorem pick_none {α : Type} : ∀ (l : List α), pick (List.replicate l.length false) l = l := by
  intro l
  induction l with
  | nil => rfl
  | cons x l ih => simp only [List.length_cons, List.replicate_succ, pick, ih]
theorem pick_nil {α : Type} (g : List Bool) : pick g ([] : List α) = [] := by
  cases g with
  | nil => rfl
  | cons b g => cases b <;> rfl
def cntF (g : List Bool) : Nat := (g.filter (! ·)).length
theorem pick_set {α : Type} : ∀ (g : List Bool) (l : List α) (K : Nat), g.length = l.length → g[K]? = some false → pick (g.set K true) l = (pick g l).eraseIdx (cntF (g.take K)) := by
  intro g
  induction g with
  | nil => intro l K _ h; simp at h
  | cons b g ih =>
    intro l K hl h
    cases l with
    | nil => simp at hl
    | cons x l =>
      cases K with
      | zero =>
        simp only [List.getElem?_cons_zero, Option.some.injEq] at h
        subst h
        rfl
      | succ K =>
        have := ih l K (by simpa using hl) (by simpa using h)
        cases b
        · simp only [List.set_cons_succ, pick, this, List.take_succ_cons, cntF, List.filter_cons, Bool.not_false, if_true, List.length_cons, List.eraseIdx_cons_succ]
        · simp only [List.set_cons_succ, pick, this, List.take_succ_cons, cntF, List.filter_cons, Bool.not_true, Bool.false_eq_true, if_false]
theorem pick_take {α : Type} : ∀ (g : List Bool) (l : List α) (m : Nat) (b : Bool) (x : α), g[m]? = some b → l[m]? = some x → pick g (l.take (m + 1)) = pick g (l.take m) ++ (if b = true then [] else [x]) := by
  intro g
  induction g with
  | nil => intro l m b x h; simp at h
  | cons c g ih =>
    intro l m b x hb hx
    cases l with
    | nil => simp at hx
    | cons y l =>
      cases m with
      | zero =>
        simp only [List.getElem?_cons_zero, Option.some.injEq] at hb hx
        subst hb hx
        cases c <;> simp [pick, pick_nil]
      | succ m =>
        have := ih l m b x (by simpa using hb) (by simpa using hx)
        cases c
        · simp only [List.take_succ_cons, pick, List.cons_append]
          rw [this]
        · simp only [List.take_succ_cons, pick]
          exact this
/-- The reference's flags, and the core's state, at the K-th round. -/
structure CoreRel (l : List Form) (u : Int) (K : Nat) (G : List Bool) : Prop where
  len : G.length = l.length
  left : pick G l = (coreGo l u K).1
  cnt : cntF (G.take K) = (coreGo l u K).2.length
  rest : ∀ k, K ≤ k → k < l.length → G[k]? = some false
theorem CoreRel.start (l : List Form) (u : Int) : CoreRel l u 0 (List.replicate l.length false) :=
  ⟨by simp, by rw [pick_none]; rfl, rfl, fun k _ h => by simp [h]⟩
theorem CoreRel.gone {l : List Form} {u : Int} {K : Nat} {G : List Bool} (h : CoreRel l u K G) (hK : K < l.length) : pick (G.set K true) l = (coreGo l u K).1.eraseIdx (coreGo l u K).2.length := by
  rw [pick_set G l K h.len (h.rest K (Nat.le_refl _) hK), h.left, h.cnt]
theorem CoreRel.shut {l : List Form} {u : Int} {K : Nat} {G : List Bool} (h : CoreRel l u K G) (hK : K < l.length) (ho : openV (pick (G.set K true) l) u = false) : CoreRel l u (K + 1) (G.set K true) ∧ (coreGo l u (K + 1)).2 = (coreGo l u K).2 := by
  have hg := h.gone hK
  rw [hg] at ho
  have e : coreGo l u (K + 1) = ((coreGo l u K).1.eraseIdx (coreGo l u K).2.length, (coreGo l u K).2) := by rw [coreGo_succ, coreStep, ho]; rfl
  refine ⟨⟨by simpa using h.len, by rw [hg, e], ?_, fun k hk hl => ?_⟩, by rw [e]⟩
  · have hKG : K < G.length := by rw [h.len]; exact hK
    have hc := h.cnt
    rw [e, List.take_succ_eq_append_getElem (by simpa using hKG)]
    simp only [List.take_set, cntF, List.filter_append, List.length_append] at hc ⊢
    rw [List.set_eq_of_length_le (by simp; omega), hc]
    simp
  · rw [List.getElem?_set_ne (by omega)]
    exact h.rest k (by omega) hl
theorem CoreRel.open_ {l : List Form} {u : Int} {K : Nat} {G : List Bool} (h : CoreRel l u K G) (hK : K < l.length) (ho : openV (pick (G.set K true) l) u = true) : CoreRel l u (K + 1) ((G.set K true).set K false) ∧ (coreGo l u (K + 1)).2 = (coreGo l u K).2 ++ [(K : Int)] := by
  have hg := h.gone hK
  rw [hg] at ho
  have hKG : K < G.length := by rw [h.len]; exact hK
  have hf := h.rest K (Nat.le_refl _) hK
  have e : coreGo l u (K + 1) = ((coreGo l u K).1, (coreGo l u K).2 ++ [(K : Int)]) := by rw [coreGo_succ, coreStep, ho]; rfl
  have eG : (G.set K true).set K false = G := by
    rw [List.set_set]
    rw [List.getElem?_eq_getElem hKG, Option.some.injEq] at hf
    rw [← hf]
    exact List.set_getElem_self hKG
  rw [eG]
  refine ⟨⟨h.len, by rw [h.left, e], ?_, fun k hk hl => h.rest k (by omega) hl⟩, by rw [e]⟩
  rw [List.getElem?_eq_getElem hKG, Option.some.injEq] at hf
  rw [e, List.take_succ_eq_append_getElem hKG, hf]
  have hc := h.cnt
  simp only [cntF, List.filter_append, List.length_append] at hc ⊢
  rw [hc]
  rfl
end Venn
