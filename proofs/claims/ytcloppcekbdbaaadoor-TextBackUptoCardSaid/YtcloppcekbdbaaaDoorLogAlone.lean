/-
  THE WALK of log.Alone.
-/
import Derived.Test.YtcloppcekbdbaaaDoorSpanG
import Derived.Test.YtcloppcekbdbaaaDoorFormG
import Derived.Deep.DeepCutAuto
namespace Venn
/-- The formula of one atom, or its opposite. -/
def aloneF (a : Atom) (h : Bool) : Form := ⟨[a], if h = true then [0] else [0, 12]⟩
end Venn
namespace Go.Proofs.YtcloppcekbdbaaaDoor
open Go.RowKit

theorem slice_block {w : World} {g : Nat} {t : TypeId} {a : Addr} {k : IntKind} {x : Int} {A1 A2 : Option Addr} {n1 n2 c1 c2 : Nat} (hB : Blk w g t #[.slice A1 n1 c1, .slice A2 n2 c2]) (h : w.cell? a = some (.int k x)) : g ≠ a.block := by
  intro e
  unfold World.cell? at h
  rw [← e, show w.heap[g]? = some (.cells #[.slice A1 n1 c1, .slice A2 n2 c2] t (0, 0)) from hB] at h
  simp only at h
  split at h
  · cases h
  · rcases ho : a.off with _ | _ | n
    · rw [ho] at h; simp at h
    · rw [ho] at h; simp at h
    · rw [ho] at h; simp at h
theorem one_far {w : World} {g i : Nat} {a : Addr} {u : Value} (h : w.cell? a = some u) (hn : g ≠ a.block) (x : Value) : (w.setCell ⟨g, i, none⟩ x).cell? a = some u := by
  rw [World.cell?_setCell_far _ ⟨g, i, none⟩ a _ hn]
  exact h
theorem IsInts.fset {w : World} {g : Nat} {t : TypeId} {v : Value} {l : List Int} {A1 A2 : Option Addr} {n1 n2 c1 c2 : Nat} (h : IsInts w v l) (hB : Blk w g t #[.slice A1 n1 c1, .slice A2 n2 c2]) (i : Nat) (x : Value) : IsInts (w.setCell ⟨g, i, none⟩ x) v l := by
  obtain ⟨A, c, hv, hr, hc⟩ := h
  refine ⟨A, c, hv, fun j u hj => ?_, hc⟩
  obtain ⟨ad, e, h⟩ := hr j u hj
  obtain ⟨z, rfl⟩ : ∃ z, u = .int .i64 z := by
    rw [List.getElem?_map] at hj
    obtain ⟨z, _, rfl⟩ := Option.map_eq_some_iff.1 hj
    exact ⟨z, rfl⟩
  exact ⟨ad, e, by rw [World.cell?_setCell_far _ ⟨g, i, none⟩ _ _ (slice_block hB h)]; exact h⟩
theorem IsAtoms.fset {w : World} {g : Nat} {t : TypeId} {v : Value} {l : List Venn.Atom} {A1 A2 : Option Addr} {n1 n2 c1 c2 : Nat} (h : IsAtoms w v l) (hB : Blk w g t #[.slice A1 n1 c1, .slice A2 n2 c2]) (i : Nat) (x : Value) : IsAtoms (w.setCell ⟨g, i, none⟩ x) v l := by
  obtain ⟨A, c, hv, hr, hc⟩ := h
  refine ⟨A, c, hv, fun k a ha => ?_, hc⟩
  obtain ⟨ad, sv, tv, e, h0, h1, h2, h3, hs, ht⟩ := hr k a ha
  have hn : g ≠ (ad.add (k * 4)).block := slice_block hB h0
  exact ⟨ad, sv, tv, e, one_far h0 hn x, one_far h1 hn x, one_far h2 hn x, one_far h3 hn x, hs.fset hB i x, ht.fset hB i x⟩
theorem alone_chk {a : Venn.Atom} (h : Venn.atomChk a = 0) : Venn.formChk ⟨[a], [0]⟩ = 0 := by
  unfold Venn.formChk
  simp [Venn.atomsChk, h]
  decide

theorem But.setNewL {C : Nat → Prop} {X Y : World} (h : But C X Y) {p : Addr} (hp : X.heap.size ≤ p.block) (v : Value) : But C X (Y.setCell p v) :=
  ⟨h.os, h.tape, h.output, by simpa [World.setCell] using h.size, fun k hk hc => (Below.heap_setCell Y p v k (by omega)).trans (h.block k hk hc)⟩
/-- It lies in blocks of its own: whatever else changes. -/
def AlonePost (f : Venn.Form) (w : World) (e : Ending) (w' : World) : Prop :=
  ∃ A kA C kC, e = .returned (.agg #[.slice A f.atoms.length kA, .slice C f.code.length kC]) ∧ Below w.heap.size w w' ∧
    ∀ w'', But (fun b => b < w.heap.size) w' w'' → IsAtoms w'' (.slice A f.atoms.length kA) f.atoms ∧ IsInts w'' (.slice C f.code.length kC) f.code
end Go.Proofs.YtcloppcekbdbaaaDoor
