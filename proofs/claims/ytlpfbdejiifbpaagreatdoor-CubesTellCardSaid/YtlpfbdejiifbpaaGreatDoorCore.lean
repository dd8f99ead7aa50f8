/-
  WORDS FOR LISTS OF FORMULAS IN MEMORY, and the walks of core.Check, core.So.
-/
import Derived.Test.YtlpfbdejiifbpaaGreatDoorFitAll
import Derived.Test.YtlpfbdejiifbpaaGreatDoorFormTrue
import Derived.Test.YtlpfbdejiifbpaaGreatDoorVennP2
import Derived.Test.YtlpfbdejiifbpaaGreatDoorSpan
namespace Go.Proofs.YtlpfbdejiifbpaaGreatDoor
open Go.RowKit Go.Shelf

/-- A slice of formulas reads as l. -/
def IsForms (w : World) (v : Value) (l : List Venn.Form) : Prop :=
  ∃ A c, v = .slice A l.length c ∧ (∀ (k : Nat) (f : Venn.Form), l[k]? = some f → ∃ ad sa sc, A = some ad ∧ w.cell? (ad.add (k * 2)) = some sa ∧ w.cell? ⟨(ad.add (k * 2)).block, (ad.add (k * 2)).off + 1, none⟩ = some sc ∧
    IsAtoms w sa f.atoms ∧ IsInts w sc f.code) ∧ l.length ≤ c ∧ c ≤ maxLen
theorem IsForms.keep {w w' : World} {v : Value} {l : List Venn.Form} (h : IsForms w v l) (hb : Below w.heap.size w w') : IsForms w' v l := by
  obtain ⟨A, c, hv, hr, hc⟩ := h
  refine ⟨A, c, hv, fun k a ha => ?_, hc⟩
  obtain ⟨ad, sa, sc, e, h0, h1, hs, ht⟩ := hr k a ha
  exact ⟨ad, sa, sc, e, cell_keep hb h0, cell_keep hb h1, hs.keep hb, ht.keep hb⟩
theorem IsForms.nil (w : World) : IsForms w (.slice none 0 0) [] := ⟨none, 0, rfl, fun k a h => by simp at h, Nat.le_refl _, by simp⟩
theorem IsForms.one {w : World} {g : Nat} {t : TypeId} {f : Venn.Form} {sa sc : Value} (h : Blk w g t #[sa, sc]) (ha : IsAtoms w sa f.atoms) (hc : IsInts w sc f.code) : IsForms w (.slice (some ⟨g, 0, none⟩) 1 1) [f] := by
  refine ⟨_, _, rfl, fun k x hx => ?_, Nat.le_refl _, by simp [maxLen]⟩
  match k, hx with
  | 0, hx =>
    simp at hx
    subst hx
    exact ⟨_, sa, sc, rfl, h.cell 0, h.cell 1, ha, hc⟩
theorem IsAtoms.slice {w : World} {v : Value} {l : List Venn.Atom} (h : IsAtoms w v l) : ∃ A c, v = .slice A l.length c := let ⟨A, c, e, _⟩ := h; ⟨A, c, e⟩
theorem IsInts.slice {w : World} {v : Value} {l : List Int} (h : IsInts w v l) : ∃ A c, v = .slice A l.length c := let ⟨A, c, e, _⟩ := h; ⟨A, c, e⟩

/-- The first that does not hold. -/
def idxF (W : Venn.World) : List Venn.Form → Nat → Int
  | [], _ => -1
  | f :: r, k => if Venn.formTrue f W = true then idxF W r (k + 1) else k
theorem idxF_nonneg (W : Venn.World) : ∀ (l : List Venn.Form) (k : Nat), decide (0 ≤ idxF W l k) = !Venn.formsTrue l W := by
  intro l
  induction l with
  | nil => intro k; simp [idxF, Venn.formsTrue]
  | cons f l ih =>
    intro k
    unfold idxF
    have e : Venn.formsTrue (f :: l) W = (Venn.formTrue f W && Venn.formsTrue l W) := rfl
    by_cases h : Venn.formTrue f W = true
    · rw [if_pos h, ih, e, h, Bool.true_and]
    · have h' : Venn.formTrue f W = false := by simpa using h
      rw [if_neg h, e, h']; simp
end Go.Proofs.YtlpfbdejiifbpaaGreatDoor
