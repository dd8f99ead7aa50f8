/-
  append of rows onto a row of the call's own; the walk of rows.Fits.
-/
import Derived.Test.YtcecbpbpknphjaaDoorRowChk
import Derived.Test.YtcecbpbpknphjaaDoorVennP1
import Derived.Test.YtcecbpbpknphjaaDoorApp
namespace Go.Proofs.YtcecbpbpknphjaaDoor
open Go.RowKit

abbrev flat9 (l : List (List Int)) : List Value := l.flatMap fun r => r.map (Value.int .i64)
theorem flat_len : ∀ (l : List (List Int)), (∀ r ∈ l, r.length = 9) → (flat9 l).length = l.length * 9 := by
  intro l
  induction l with
  | nil => intro _; rfl
  | cons r l ih =>
    intro h
    have h1 := h r (by simp)
    have h2 := ih fun r hr => h r (List.mem_cons_of_mem _ hr)
    simp only [flat9, List.flatMap_cons, List.length_append, List.length_map, List.length_cons] at h2 ⊢
    omega
/-- What a row of the call's own holds reads as rows. -/
theorem IsRows.of_own {w : World} {base : Nat} {e : TypeId} {v : Value} {n : Nat} {l : List (List Int)} (h : w.ownsRow base e 9 v n (flat9 l)) (h9 : ∀ r ∈ l, r.length = 9) : IsRows w v l := by
  have hn : n = l.length := by have := h.1; rw [flat_len l h9] at this; omega
  subst hn
  rcases h.2 with ⟨rfl, hl⟩ | ⟨g, cap, cur, rfl, _, hh, hnc, hcm, hcs, ht⟩
  · have : l = [] := List.eq_nil_of_length_eq_zero hl
    subst this
    exact IsRows.nil _
  · exact ⟨_, _, rfl, fun j u hj => ⟨_, rfl, h.cells (g := g) rfl j u hj⟩, h9, hnc, hcm⟩

theorem counts_bound {n0 n1 n2 n3 n4 n5 n6 n7 : Int} (hc : Venn.countsChk [n0, n1, n2, n3, n4, n5, n6, n7] = 0) : (0 ≤ n0 ∧ n0 ≤ 6) ∧ (0 ≤ n1 ∧ n1 ≤ 6) ∧ (0 ≤ n2 ∧ n2 ≤ 6) ∧ (0 ≤ n3 ∧ n3 ≤ 6) ∧ (0 ≤ n4 ∧ n4 ≤ 6) ∧ (0 ≤ n5 ∧ n5 ≤ 6) ∧ (0 ≤ n6 ∧ n6 ≤ 6) ∧ (0 ≤ n7 ∧ n7 ≤ 6) := by
  unfold Venn.countsChk at hc
  split at hc
  · rename_i ha
    simp only [List.all_cons, List.all_nil, Bool.and_true, Bool.and_eq_true, Venn.things, decide_eq_true_eq] at ha
    omega
  · cases hc
theorem counts_sum {n0 n1 n2 n3 n4 n5 n6 n7 : Int} (hc : Venn.countsChk [n0, n1, n2, n3, n4, n5, n6, n7] = 0) : n0 + n1 + n2 + n3 + n4 + n5 + n6 + n7 ≤ 6 := by
  have hb := counts_bound hc
  unfold Venn.countsChk at hc
  split at hc
  · split at hc
    · cases hc
    · rename_i h6
      simp only [List.sum_cons, List.sum_nil] at h6
      omega
  · cases hc
end Go.Proofs.YtcecbpbpknphjaaDoor
