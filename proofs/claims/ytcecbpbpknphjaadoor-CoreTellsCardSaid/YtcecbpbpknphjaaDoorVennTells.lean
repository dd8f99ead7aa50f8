/-
  THE PLAIN SIDE of the reference's Ways, Span, and of the least set found from above.
-/
import Derived.Test.YtcecbpbpknphjaaDoorVennP2
namespace Venn
/-! ### the first number, found from above -/
theorem firstFrom_down {p : Nat → Bool} {N k : Nat} (hk : k < N) : firstFrom p (N - k) k = if p k = true then (k : Int) else firstFrom p (N - (k + 1)) (k + 1) := by
  rw [show N - k = (N - (k + 1)) + 1 by omega, firstFrom]
theorem firstFrom_neg {p : Nat → Bool} : ∀ (n k : Nat), firstFrom p n k = -1 ∨ (k : Int) ≤ firstFrom p n k := by
  intro n
  induction n with
  | zero => intro k; exact .inl rfl
  | succ n ih =>
    intro k
    rw [firstFrom]
    split
    · exact .inr (Int.le_refl _)
    · rcases ih (k + 1) with h | h
      · exact .inl h
      · exact .inr (by omega)

/-! ### the ways to put things into fields, as the reference reckons -/
def facGo : Nat → Int
  | 0 => 1
  | n + 1 => facGo n * ((n + 1 : Nat) : Int)
def divTo (w : Int) : Nat → Int
  | 0 => w
  | 1 => w
  | n + 2 => divTo w (n + 1) / ((n + 2 : Nat) : Int)
def waysRef (l : List Int) : Int := l.foldl (fun w n => divTo w n.toNat) (facGo l.sum.toNat)
set_option maxRecDepth 1000000 in
theorem waysRef_lit : ∀ (u : Fin 7), ∀ x ∈ allG 7 u.val, waysRef x = ways x := by decide +kernel
theorem waysRef_all {u : Int} (h : things u = true) {x : List Int} (hx : x ∈ allC u) : waysRef x = ways x := by
  simp only [things, Bool.and_eq_true, decide_eq_true_eq] at h
  have : x ∈ allG 7 u.toNat := by simpa [allC] using hx
  exact waysRef_lit ⟨u.toNat, by omega⟩ x this
theorem facGo_range : ∀ s : Nat, s ≤ 6 → 1 ≤ facGo s ∧ facGo s ≤ 720 := by
  have : ∀ s : Fin 7, 1 ≤ facGo s.val ∧ facGo s.val ≤ 720 := by decide
  exact fun s hs => this ⟨s, by omega⟩
theorem div_range {w k : Int} (h : 0 ≤ w ∧ w ≤ 720) (hk : 1 ≤ k) : 0 ≤ w / k ∧ w / k ≤ 720 := by
  constructor
  · exact Int.ediv_nonneg h.1 (by omega)
  · have := Int.ediv_le_self k h.1
    omega
theorem divTo_range {w : Int} (h : 0 ≤ w ∧ w ≤ 720) : ∀ n : Nat, 0 ≤ divTo w n ∧ divTo w n ≤ 720
  | 0 => h
  | 1 => h
  | n + 2 => div_range (divTo_range h (n + 1)) (by omega)

/-! ### the span, begun at 100 -/
theorem span_begin (f : Form) (t : List Int) (u : Int) : ∀ (l : List (List Int)) (p q : Int × Int), (∀ x ∈ l, cntT t x ≤ u) → u ≤ 6 → p.2 = q.2 → (p.2 = -1 ∧ p.1 = u + 1 ∧ q.1 = 100 ∨ 0 ≤ p.2 ∧ p.1 = q.1) →
    (l.foldl (spanStep f t) p).2 = (l.foldl (spanStep f t) q).2 ∧ ((l.foldl (spanStep f t) p).2 = -1 ∧ (l.foldl (spanStep f t) p).1 = u + 1 ∧ (l.foldl (spanStep f t) q).1 = 100 ∨ 0 ≤ (l.foldl (spanStep f t) p).2 ∧ (l.foldl (spanStep f t) p).1 = (l.foldl (spanStep f t) q).1) := by
  intro l
  induction l with
  | nil => intro p q _ _ h1 h2; exact ⟨h1, h2⟩
  | cons x l ih =>
    intro p q hc hu h1 h2
    have hx := hc x (by simp)
    have h0 := (cntT_le t x).1
    rw [List.foldl_cons, List.foldl_cons]
    refine ih _ _ (fun y hy => hc y (List.mem_cons_of_mem _ hy)) hu ?_ ?_
    · unfold spanStep
      split
      · show max p.2 (cntT t x) = max q.2 (cntT t x)
        rw [h1]
      · exact h1
    · unfold spanStep
      split
      · refine .inr ⟨?_, ?_⟩
        · show 0 ≤ max p.2 (cntT t x); omega
        · show min p.1 (cntT t x) = min q.1 (cntT t x); omega
      · exact h2
def spanRef (f : Form) (t : List Int) (l : List (List Int)) : Int × Int := l.foldl (spanStep f t) (100, -1)
theorem spanRef_go {f : Form} {t : List Int} {u : Int} (hu : things u = true) : (spanRef f t (allC u)).2 = (spanGo f t u (allC u)).2 ∧ (¬ (spanGo f t u (allC u)).2 < 0 → spanRef f t (allC u) = spanGo f t u (allC u)) := by
  have hu' := hu
  simp only [things, Bool.and_eq_true, decide_eq_true_eq] at hu'
  obtain ⟨h1, h2⟩ := span_begin f t u (allC u) (u + 1, -1) (100, -1) (fun x hx => by
    obtain ⟨h1, h2⟩ := made_allC hu hx
    have := many_things (termSet_right h1 t)
    rw [h2] at this
    exact this) hu'.2 rfl (.inl ⟨rfl, rfl, rfl⟩)
  refine ⟨h1.symm, fun h => ?_⟩
  rcases h2 with h2 | h2
  · exact absurd (show (spanGo f t u (allC u)).2 < 0 by unfold spanGo; rw [h2.1]; decide) h
  · exact Prod.ext h2.2.symm h1.symm
theorem spanRef_snoc (f : Form) (t : List Int) (pre : List (List Int)) (x : List Int) : spanRef f t (pre ++ [x]) = spanStep f t (spanRef f t pre) x := by simp [spanRef]
theorem spanRef_range (f : Form) (t : List Int) (l : List (List Int)) : (-1 ≤ (spanRef f t l).1 ∧ (spanRef f t l).1 ≤ 100) ∧ (-1 ≤ (spanRef f t l).2 ∧ (spanRef f t l).2 ≤ 100) := by
  have : ∀ (l : List (List Int)) (p : Int × Int), (-1 ≤ p.1 ∧ p.1 ≤ 100) → (-1 ≤ p.2 ∧ p.2 ≤ 100) → (-1 ≤ (l.foldl (spanStep f t) p).1 ∧ (l.foldl (spanStep f t) p).1 ≤ 100) ∧ (-1 ≤ (l.foldl (spanStep f t) p).2 ∧ (l.foldl (spanStep f t) p).2 ≤ 100) := by
    intro l
    induction l with
    | nil => intro p h1 h2; exact ⟨h1, h2⟩
    | cons x l ih =>
      intro p h1 h2
      have hc := cntT_le t x
      refine ih _ ?_ ?_
      · unfold spanStep
        split
        · show -1 ≤ min p.1 (cntT t x) ∧ min p.1 (cntT t x) ≤ 100; omega
        · exact h1
      · unfold spanStep
        split
        · show -1 ≤ max p.2 (cntT t x) ∧ max p.2 (cntT t x) ≤ 100; omega
        · exact h2
  exact this l _ (by simp only []; omega) (by simp only []; omega)
end Venn
