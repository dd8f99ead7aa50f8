/-
  FORMULAS BY VALUE: a slice of formulas as its cells; append of formulas; the walk of slices.Clone at formulas.
-/
import Derived.Test.YtlpfbdejiifbpaaDoorOwnA
import Derived.Test.YtlpfbdejiifbpaaDoorCore
namespace Go.Proofs.YtlpfbdejiifbpaaDoor
open Go.RowKit

/-- A formula and the values of its two slices. -/
abbrev FV := Venn.Form × Value × Value
def fCells : List FV → List Value
  | [] => []
  | x :: r => x.2.1 :: x.2.2 :: fCells r
theorem fCells_len : ∀ p : List FV, (fCells p).length = p.length * 2 := by
  intro p
  induction p with
  | nil => rfl
  | cons x r ih => simp only [fCells, List.length_cons, ih]; omega
theorem fCells_app : ∀ p q : List FV, fCells (p ++ q) = fCells p ++ fCells q := by
  intro p q
  induction p with
  | nil => rfl
  | cons x r ih => simp only [fCells, List.cons_append, ih]
theorem fCells_at : ∀ (p : List FV) (k : Nat) (x : FV), p[k]? = some x → (fCells p)[k * 2]? = some x.2.1 ∧ (fCells p)[k * 2 + 1]? = some x.2.2 := by
  intro p
  induction p with
  | nil => intro k x h; simp at h
  | cons y r ih =>
    intro k x h
    cases k with
    | zero => simp at h; subst h; exact ⟨rfl, rfl⟩
    | succ k =>
      have := ih k x (by simpa using h)
      rw [Nat.succ_mul, show k * 2 + 2 + 1 = k * 2 + 1 + 2 by omega]
      simpa only [fCells, List.getElem?_cons_succ] using this
def FOk (w : World) (p : List FV) : Prop := ∀ x ∈ p, IsAtoms w x.2.1 x.1.atoms ∧ IsInts w x.2.2 x.1.code
theorem FOk.keep {w w' : World} {p : List FV} (h : FOk w p) (hb : Below w.heap.size w w') : FOk w' p := fun x hx => ⟨(h x hx).1.keep hb, (h x hx).2.keep hb⟩
theorem fCells_one {w : World} : ∀ {p : List FV}, FOk w p → ∀ u ∈ fCells p, u.oneCell' = true := by
  intro p
  induction p with
  | nil => intro _ u h; cases h
  | cons x r ih =>
    intro h u hu
    obtain ⟨⟨A, c, hs, _⟩, ⟨B, d, ht, _⟩⟩ := h x (by simp)
    simp only [fCells, List.mem_cons] at hu
    rcases hu with rfl | rfl | hu
    · rw [hs]; rfl
    · rw [ht]; rfl
    · exact ih (fun y hy => h y (List.mem_cons_of_mem _ hy)) u hu
theorem forms_open {w : World} {v : Value} {l : List Venn.Form} (h : IsForms w v l) : ∃ A c p, v = .slice A p.length c ∧ p.map (fun x : FV => x.1) = l ∧ Rd w A (fCells p) ∧ FOk w p ∧ p.length ≤ c ∧ c ≤ maxLen := by
  obtain ⟨A, c, rfl, hr, h1, h2⟩ := h
  have hx : ∀ k : Nat, ∃ q : Value × Value, ∀ f, l[k]? = some f → ∃ ad, A = some ad ∧ w.cell? (ad.add (k * 2)) = some q.1 ∧ w.cell? ⟨(ad.add (k * 2)).block, (ad.add (k * 2)).off + 1, none⟩ = some q.2 ∧ IsAtoms w q.1 f.atoms ∧ IsInts w q.2 f.code := by
    intro k
    cases hk : l[k]? with
    | none => exact ⟨(default, default), fun a h => by cases h⟩
    | some a =>
      obtain ⟨ad, sv, tv, h⟩ := hr k a hk
      exact ⟨(sv, tv), fun b hb => by cases hb; exact ⟨ad, h⟩⟩
  obtain ⟨f, hf⟩ := Classical.axiomOfChoice hx
  have hlen : ((List.range l.length).map fun k => ((((l[k]?).getD ⟨[], []⟩ : Venn.Form), f k) : FV)).length = l.length := by simp
  have hget : ∀ k x, ((List.range l.length).map fun k => ((((l[k]?).getD ⟨[], []⟩ : Venn.Form), f k) : FV))[k]? = some x → l[k]? = some x.1 ∧ x.2 = f k := by
    intro k x h
    rw [List.getElem?_map] at h
    obtain ⟨i, hi, rfl⟩ := Option.map_eq_some_iff.1 h
    have := List.getElem?_eq_some_iff.1 hi
    simp at this
    obtain ⟨h3, rfl⟩ := this
    simp [h3]
  refine ⟨A, c, (List.range l.length).map fun k => ((((l[k]?).getD ⟨[], []⟩ : Venn.Form), f k) : FV), by rw [hlen], ?_, ?_, ?_, by rw [hlen]; exact h1, h2⟩
  · refine List.ext_getElem? fun k => ?_
    by_cases hk : k < l.length
    · simp [hk]
    · rw [List.getElem?_eq_none (by simp; omega), List.getElem?_eq_none (by omega)]
  · intro j u hj
    have hjl := (List.getElem?_eq_some_iff.1 hj).1
    rw [fCells_len, hlen] at hjl
    have hk : ((List.range l.length).map fun k => ((((l[k]?).getD ⟨[], []⟩ : Venn.Form), f k) : FV))[j / 2]? = some ((l[j / 2]?).getD ⟨[], []⟩, f (j / 2)) := by
      rw [List.getElem?_map, List.getElem?_range (by omega)]; rfl
    obtain ⟨c0, c1⟩ := fCells_at _ _ _ hk
    obtain ⟨e1, e2⟩ := hget _ _ hk
    obtain ⟨ad, e, h0, g1, _⟩ := hf (j / 2) _ e1
    refine ⟨ad, e, ?_⟩
    rcases (by omega : j = j / 2 * 2 ∨ j = j / 2 * 2 + 1) with hh | hh
    · rw [hh] at hj ⊢; rw [c0] at hj; cases hj; exact h0
    · rw [hh] at hj ⊢; rw [c1] at hj; cases hj; rw [adr_add _ _ _ (by decide)]; exact g1
  · intro x hx
    obtain ⟨k, hk, he⟩ := List.getElem_of_mem hx
    obtain ⟨e1, e2⟩ := hget k x (by rw [List.getElem?_eq_getElem hk, he])
    obtain ⟨ad, e, _, _, hs, ht⟩ := hf k _ e1
    rw [e2]
    exact ⟨hs, ht⟩
theorem forms_close {w : World} {A : Option Addr} {c : Nat} {p : List FV} (hr : Rd w A (fCells p)) (hp : FOk w p) (h1 : p.length ≤ c) (h2 : c ≤ maxLen) : IsForms w (.slice A p.length c) (p.map (fun x : FV => x.1)) := by
  refine ⟨A, c, by simp, fun k a hk => ?_, by simpa using h1, h2⟩
  rw [List.getElem?_map] at hk
  obtain ⟨x, hx, rfl⟩ := Option.map_eq_some_iff.1 hk
  obtain ⟨c0, c1⟩ := fCells_at p k x hx
  obtain ⟨ad, rfl, g0⟩ := hr _ _ c0
  obtain ⟨ad1, e1, g1⟩ := hr _ _ c1
  cases e1
  rw [adr_add _ _ _ (by decide)] at g1
  obtain ⟨hs, ht⟩ := hp x (List.mem_of_getElem? hx)
  exact ⟨ad, _, _, rfl, g0, g1, hs, ht⟩
theorem forms_of_own {w : World} {base : Nat} {e : TypeId} {v : Value} {n : Nat} {p : List FV} (h : w.ownsRow base e 2 v n (fCells p)) (hp : FOk w p) : IsForms w v (p.map (fun x : FV => x.1)) := by
  have hn : n = p.length := by have := h.1; rw [fCells_len] at this; omega
  subst hn
  rcases h.2 with ⟨rfl, hl⟩ | ⟨g, cap, cur, rfl, _, hh, hnc, hcm, hcs, ht⟩
  · have : p = [] := List.eq_nil_of_length_eq_zero hl
    subst this
    exact IsForms.nil _
  · exact forms_close (fun j u hj => ⟨_, rfl, h.cells (g := g) rfl j u hj⟩) hp hnc hcm
theorem form_info : (Tryd.prog.info? 25).map (fun i => (i.zero, i.size, i.bytes)) = some (some (.agg #[.slice none 0 0, .slice none 0 0]), 2, 48) := by kernel_rfl
def CloneFPost (p : List FV) (w : World) (e : Ending) (w' : World) : Prop := ∃ v', e = .returned v' ∧ Below w.heap.size w w' ∧ w'.ownsRow w.heap.size 25 2 v' p.length (fCells p)
end Go.Proofs.YtlpfbdejiifbpaaDoor
