/-
  WORDS FOR SLICES OF ROWS, and the walks of rows.So, rows.Check, rows.Fits.
-/
import Derived.Test.YtlpfbdejiifbpaaDoorCounts
import Derived.Test.YtlpfbdejiifbpaaDoorRow
namespace Go.Proofs.YtlpfbdejiifbpaaDoor
open Go.RowKit

theorem mul_in {x n : Int} (hx : -2 ≤ x ∧ x ≤ 2) (hn : 0 ≤ n ∧ n ≤ 6) : -12 ≤ x * n ∧ x * n ≤ 12 := by
  obtain ⟨h1, h2⟩ := hx
  rcases (by omega : x = -2 ∨ x = -1 ∨ x = 0 ∨ x = 1 ∨ x = 2) with rfl | rfl | rfl | rfl | rfl
  all_goals omega
/-- A slice of rows reads as l; a row is nine numbers. -/
def IsRows (w : World) (v : Value) (l : List (List Int)) : Prop :=
  ∃ A c, v = .slice A l.length c ∧ Rd w A (l.flatMap fun r => r.map (Value.int .i64)) ∧ (∀ r ∈ l, r.length = 9) ∧ l.length ≤ c ∧ c ≤ maxLen
theorem IsRows.keep {w w' : World} {v : Value} {l : List (List Int)} (h : IsRows w v l) (hb : Below w.heap.size w w') : IsRows w' v l := by
  obtain ⟨A, c, hv, hr, hc⟩ := h
  exact ⟨A, c, hv, hr.keep hb, hc⟩
theorem IsRows.nil (w : World) : IsRows w (.slice none 0 0) [] := ⟨none, 0, rfl, Rd.nil _ _, by simp, Nat.le_refl _, by simp⟩
theorem flat_at : ∀ (l : List (List Int)) (k j : Nat) (x : List Int) (y : Int), (∀ r ∈ l, r.length = 9) → l[k]? = some x → x[j]? = some y →
    (l.flatMap fun r => r.map (Value.int .i64))[k * 9 + j]? = some (.int .i64 y) := by
  intro l
  induction l with
  | nil => intro k j x y _ h _; simp at h
  | cons r l ih =>
    intro k j x y hl hk hj
    have hr := hl r (by simp)
    rw [List.flatMap_cons]
    cases k with
    | zero =>
      simp at hk
      subst hk
      rw [List.getElem?_append_left (by simp; have := (List.getElem?_eq_some_iff.1 hj).1; omega)]
      simp [hj]
    | succ k =>
      rw [List.getElem?_append_right (by simp; omega)]
      simp only [List.length_map, hr]
      rw [show (k + 1) * 9 + j - 9 = k * 9 + j by omega]
      exact ih k j x y (fun r hr => hl r (List.mem_cons_of_mem _ hr)) (by simpa using hk) hj
/-- Row k, cell by cell. -/
theorem Rd.row {w : World} {A : Option Addr} {l : List (List Int)} (h : Rd w A (l.flatMap fun r => r.map (Value.int .i64))) (hl : ∀ r ∈ l, r.length = 9) {k : Nat} (hk : k < l.length) :
    ∃ ad x0 x1 x2 x3 x4 x5 x6 x7 x8, A = some ad ∧ l[k] = [x0, x1, x2, x3, x4, x5, x6, x7, x8] ∧ w.cell? (ad.add (k * 9)) = some (.int .i64 x0) ∧ w.cell? ⟨(ad.add (k * 9)).block, (ad.add (k * 9)).off + 1, none⟩ = some (.int .i64 x1) ∧ w.cell? ⟨(ad.add (k * 9)).block, (ad.add (k * 9)).off + 2, none⟩ = some (.int .i64 x2) ∧ w.cell? ⟨(ad.add (k * 9)).block, (ad.add (k * 9)).off + 3, none⟩ = some (.int .i64 x3) ∧ w.cell? ⟨(ad.add (k * 9)).block, (ad.add (k * 9)).off + 4, none⟩ = some (.int .i64 x4) ∧ w.cell? ⟨(ad.add (k * 9)).block, (ad.add (k * 9)).off + 5, none⟩ = some (.int .i64 x5) ∧ w.cell? ⟨(ad.add (k * 9)).block, (ad.add (k * 9)).off + 6, none⟩ = some (.int .i64 x6) ∧ w.cell? ⟨(ad.add (k * 9)).block, (ad.add (k * 9)).off + 7, none⟩ = some (.int .i64 x7) ∧ w.cell? ⟨(ad.add (k * 9)).block, (ad.add (k * 9)).off + 8, none⟩ = some (.int .i64 x8) := by
  have hk9 := hl _ (List.getElem_mem hk)
  have hke : l[k]? = some l[k] := List.getElem?_eq_getElem hk
  generalize l[k] = x at hk9 hke
  match x, hk9 with
  | [x0, x1, x2, x3, x4, x5, x6, x7, x8], _ =>
    have hc := fun (j : Nat) (y : Int) (hj : [x0, x1, x2, x3, x4, x5, x6, x7, x8][j]? = some y) => h _ _ (flat_at l k j _ y hl hke hj)
    obtain ⟨ad, rfl, h0⟩ := hc 0 x0 rfl
    have hc' := fun (j : Nat) (y : Int) (hj : [x0, x1, x2, x3, x4, x5, x6, x7, x8][j]? = some y) => (by obtain ⟨ad', e, hh⟩ := hc j y hj; cases e; exact hh : w.cell? (ad.add (k * 9 + j)) = some (.int .i64 y))
    have hj := fun (j : Nat) (hj : j ≠ 0) => (show ad.add (k * 9 + j) = ⟨(ad.add (k * 9)).block, (ad.add (k * 9)).off + j, none⟩ by rw [← add_of_add]; exact if_neg hj)
    exact ⟨ad, x0, x1, x2, x3, x4, x5, x6, x7, x8, rfl, rfl, h0, by rw [← hj 1 (by decide)]; exact hc' 1 x1 rfl, by rw [← hj 2 (by decide)]; exact hc' 2 x2 rfl, by rw [← hj 3 (by decide)]; exact hc' 3 x3 rfl, by rw [← hj 4 (by decide)]; exact hc' 4 x4 rfl, by rw [← hj 5 (by decide)]; exact hc' 5 x5 rfl, by rw [← hj 6 (by decide)]; exact hc' 6 x6 rfl, by rw [← hj 7 (by decide)]; exact hc' 7 x7 rfl, by rw [← hj 8 (by decide)]; exact hc' 8 x8 rfl⟩

end Go.Proofs.YtlpfbdejiifbpaaDoor
