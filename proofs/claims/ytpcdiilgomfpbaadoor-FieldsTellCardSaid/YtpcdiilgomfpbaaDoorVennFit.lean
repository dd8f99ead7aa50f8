/-
  THE PLAIN SIDE of counts, of rows that are so, and of the counts that fit.
-/
import Derived.Test.YtpcdiilgomfpbaaDoorVennRow
namespace Venn
/-- What is wrong with counts. -/
def countsChk (n : List Int) : Int := if n.all things = true then (if 6 < n.sum then 4 else 0) else 1
/-- Counts of the same sum behind these. -/
def afterC : List Int → Option (List Int)
  | [a0, a1, a2, a3, a4, a5, a6, a7] =>
    if a7 ≠ 0 then some [a0, a1, a2, a3, a4, a5, a6 + 1, a7 - 1]
    else if a6 ≠ 0 then some [a0, a1, a2, a3, a4, a5 + 1, 0, a6 - 1]
    else if a5 ≠ 0 then some [a0, a1, a2, a3, a4 + 1, 0, 0, a5 - 1]
    else if a4 ≠ 0 then some [a0, a1, a2, a3 + 1, 0, 0, 0, a4 - 1]
    else if a3 ≠ 0 then some [a0, a1, a2 + 1, 0, 0, 0, 0, a3 - 1]
    else if a2 ≠ 0 then some [a0, a1 + 1, 0, 0, 0, 0, 0, a2 - 1]
    else if a1 ≠ 0 then some [a0 + 1, 0, 0, 0, 0, 0, 0, a1 - 1]
    else none
  | _ => none
/-- All lists of k + 1 numbers of the sum u, one behind the other. -/
def allG : Nat → Nat → List (List Int)
  | 0, u => [[(u : Int)]]
  | k + 1, u => (List.range (u + 1)).flatMap fun j => (allG k (u - j)).map fun x => (j : Int) :: x
def allC (u : Int) : List (List Int) := allG 7 u.toNat
def linksB : List (List Int) → Bool
  | [] => false
  | [x] => (afterC x).isNone
  | x :: y :: r => (afterC x == some y) && linksB (y :: r)
theorem links_all : ∀ u : Fin 7, linksB (allG 7 u.val) = true ∧ (allG 7 u.val).head? = some [0, 0, 0, 0, 0, 0, 0, (u.val : Int)] := by decide +kernel
theorem links_split : ∀ (pre : List (List Int)) (x : List Int) (rest : List (List Int)), linksB (pre ++ x :: rest) = true →
    (rest = [] ∧ afterC x = none) ∨ ∃ y r, rest = y :: r ∧ afterC x = some y := by
  intro pre
  induction pre with
  | nil =>
    intro x rest h
    cases rest with
    | nil => exact .inl ⟨rfl, by simpa [linksB] using h⟩
    | cons y r =>
      simp only [List.nil_append, linksB, Bool.and_eq_true, beq_iff_eq] at h
      exact .inr ⟨y, r, rfl, h.1⟩
  | cons p pre ih =>
    intro x rest h
    cases pre with
    | nil =>
      simp only [List.cons_append, List.nil_append, linksB, Bool.and_eq_true] at h
      exact ih x rest h.2
    | cons q pre =>
      simp only [List.cons_append, linksB, Bool.and_eq_true] at h
      exact ih x rest h.2
theorem links_allC {u : Int} (h : things u = true) : linksB (allC u) = true ∧ ∃ r, allC u = [0, 0, 0, 0, 0, 0, 0, u] :: r := by
  simp only [things, Bool.and_eq_true, decide_eq_true_eq] at h
  obtain ⟨U, rfl⟩ := Int.eq_ofNat_of_zero_le h.1
  have := links_all ⟨U, by omega⟩
  refine ⟨this.1, ?_⟩
  have h2 := this.2
  rw [allC, Int.toNat_natCast]
  cases hl : allG 7 U with
  | nil => simp only [hl] at h2; cases h2
  | cons a r =>
    simp only [hl, List.head?_cons, Option.some.injEq] at h2
    exact ⟨r, by rw [h2]⟩
theorem mem_allG : ∀ (k u : Nat) (x : List Int), x ∈ allG k u ↔ x.length = k + 1 ∧ (∀ y ∈ x, 0 ≤ y) ∧ x.sum = u := by
  intro k
  induction k with
  | zero =>
    intro u x
    simp only [allG, List.mem_singleton]
    constructor
    · rintro rfl
      simp
    · rintro ⟨h1, h2, h3⟩
      match x, h1 with
      | [y], _ => simp at h3; rw [h3]
  | succ k ih =>
    intro u x
    simp only [allG, List.mem_flatMap, List.mem_range, List.mem_map]
    constructor
    · rintro ⟨j, hj, y, hy, rfl⟩
      obtain ⟨h1, h2, h3⟩ := (ih _ _).1 hy
      refine ⟨by simp [h1], fun z hz => ?_, ?_⟩
      · rcases List.mem_cons.1 hz with rfl | hz
        · omega
        · exact h2 z hz
      · simp [h3]; omega
    · rintro ⟨h1, h2, h3⟩
      match x, h1 with
      | a :: y, h1 =>
        have ha := h2 a (by simp)
        have hs : 0 ≤ y.sum := sum_nonneg _ fun z hz => h2 z (List.mem_cons_of_mem _ hz)
        obtain ⟨j, rfl⟩ := Int.eq_ofNat_of_zero_le ha
        rw [List.sum_cons] at h3
        refine ⟨j, by omega, y, (ih _ _).2 ⟨by simpa using h1, fun z hz => h2 z (List.mem_cons_of_mem _ hz), by omega⟩, rfl⟩
theorem le_sum : ∀ (l : List Int), (∀ y ∈ l, 0 ≤ y) → ∀ y ∈ l, y ≤ l.sum := by
  intro l
  induction l with
  | nil => intro _ y hy; cases hy
  | cons a l ih =>
    intro h y hy
    have hs : 0 ≤ l.sum := sum_nonneg _ fun z hz => h z (List.mem_cons_of_mem _ hz)
    have ha := h a (by simp)
    rw [List.sum_cons]
    rcases List.mem_cons.1 hy with rfl | hy
    · omega
    · have := ih (fun z hz => h z (List.mem_cons_of_mem _ hz)) y hy
      omega
theorem mem_allC {u : Int} (h : things u = true) (x : List Int) : x ∈ allC u ↔ x.length = 8 ∧ (∀ y ∈ x, 0 ≤ y) ∧ x.sum = u := by
  simp only [things, Bool.and_eq_true, decide_eq_true_eq] at h
  rw [allC, mem_allG]
  have : ((u.toNat : Nat) : Int) = u := by omega
  rw [this]
/-- Counts of the list, number by number. -/
theorem of_allC {u : Int} (h : things u = true) {x : List Int} (hx : x ∈ allC u) : ∃ a0 a1 a2 a3 a4 a5 a6 a7 : Int, x = [a0, a1, a2, a3, a4, a5, a6, a7] ∧ (0 ≤ a0 ∧ a0 ≤ 6) ∧ (0 ≤ a1 ∧ a1 ≤ 6) ∧ (0 ≤ a2 ∧ a2 ≤ 6) ∧ (0 ≤ a3 ∧ a3 ≤ 6) ∧ (0 ≤ a4 ∧ a4 ≤ 6) ∧ (0 ≤ a5 ∧ a5 ≤ 6) ∧ (0 ≤ a6 ∧ a6 ≤ 6) ∧ (0 ≤ a7 ∧ a7 ≤ 6) ∧ a0 + a1 + a2 + a3 + a4 + a5 + a6 + a7 = u := by
  obtain ⟨h1, h2, h3⟩ := (mem_allC h x).1 hx
  have hle := le_sum x h2
  simp only [things, Bool.and_eq_true, decide_eq_true_eq] at h
  match x, h1 with
  | [a0, a1, a2, a3, a4, a5, a6, a7], _ =>
    simp only [List.mem_cons, List.not_mem_nil, or_false, forall_eq_or_imp, forall_eq] at h2 hle
    simp only [List.sum_cons, List.sum_nil] at h3 hle
    refine ⟨a0, a1, a2, a3, a4, a5, a6, a7, rfl, ?_, ?_, ?_, ?_, ?_, ?_, ?_, ?_, ?_⟩
    all_goals omega

/-! ### rows -/
def rowOk : List Int → Bool
  | [x0, x1, x2, x3, x4, x5, x6, x7, m] => decide (-2 ≤ x0 ∧ x0 ≤ 2) && decide (-2 ≤ x1 ∧ x1 ≤ 2) && decide (-2 ≤ x2 ∧ x2 ≤ 2) && decide (-2 ≤ x3 ∧ x3 ≤ 2) && decide (-2 ≤ x4 ∧ x4 ≤ 2) && decide (-2 ≤ x5 ∧ x5 ≤ 2) && decide (-2 ≤ x6 ∧ x6 ≤ 2) && decide (-2 ≤ x7 ∧ x7 ≤ 2) && decide (-100 ≤ m ∧ m ≤ 100)
  | _ => false
def rowsChk (l : List (List Int)) : Int := if 12 < l.length then 4 else if l.all rowOk = true then 0 else 1
def rowSo : List Int → List Int → Bool
  | [x0, x1, x2, x3, x4, x5, x6, x7, m], [n0, n1, n2, n3, n4, n5, n6, n7] => decide (x0 * n0 + x1 * n1 + x2 * n2 + x3 * n3 + x4 * n4 + x5 * n5 + x6 * n6 + x7 * n7 ≤ m)
  | _, _ => false
def rowsSo (l : List (List Int)) (n : List Int) : Bool := l.all fun r => rowSo r n

/-! ### the counts that fit -/
def fitChk (u : Int) (l : List (List Int)) : Int := if things u = true then rowsChk l else 1
def firstFit (u : Int) (l : List (List Int)) : Option (List Int) := (allC u).find? (rowsSo l)
def manyFit (u : Int) (l : List (List Int)) : Int := ((allC u).filter (rowsSo l)).length
def nextChk (u : Int) (n : List Int) : Int := if things u = true then (if countsChk n = 0 then (if n.sum = u then (if (afterC n).isSome then 0 else 5) else 3) else countsChk n) else 1
end Venn
