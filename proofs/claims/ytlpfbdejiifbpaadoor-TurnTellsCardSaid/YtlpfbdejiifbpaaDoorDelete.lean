/-
  THE WALK of slices.Delete at formulas: one formula is struck.
-/
import Derived.Test.YtlpfbdejiifbpaaDoorFormsA
import Derived.Deep.RegionLaw
import Derived.Laws.IdiomCopy
namespace Go.Proofs.YtlpfbdejiifbpaaDoor
open Go.RowKit

theorem but_setCells (g : Nat) : ∀ (vs : List Value) (o : Nat) (w : World), But (fun b => b = g) w (w.setCells g o vs) := by
  intro vs
  induction vs with
  | nil => intro o w; exact But.refl _ _
  | cons v vs ih =>
    intro o w
    exact ((But.refl (fun b => b = g) w).set_ (p := ⟨g, o, none⟩) rfl v).trans (ih (o + 1) _)
theorem blk_setCells {g : Nat} {t : TypeId} : ∀ (vs : List Value) (o : Nat) (w : World) (cur : Array Value), Blk w g t cur → o + vs.length ≤ cur.size →
    ∃ cur' : Array Value, Blk (w.setCells g o vs) g t cur' ∧ cur'.toList = cur.toList.take o ++ vs ++ cur.toList.drop (o + vs.length) := by
  intro vs
  induction vs with
  | nil => intro o w cur h _; exact ⟨cur, h, by simp⟩
  | cons v vs ih =>
    intro o w cur h hl
    simp only [List.length_cons] at hl
    obtain ⟨cur', h1, h2⟩ := ih (o + 1) (w.setCell ⟨g, o, none⟩ v) (cur.setIfInBounds o v) (h.set_ o v) (by simp; omega)
    refine ⟨cur', h1, ?_⟩
    rw [h2, Array.toList_setIfInBounds]
    have hlen : o < cur.toList.length := by simp; omega
    have e1 : (cur.toList.set o v).take (o + 1) = cur.toList.take o ++ [v] := by
      rw [List.take_succ_eq_append_getElem (by simpa using hlen), List.take_set, List.set_eq_of_length_le (by simp; omega)]
      simp
    have e2 : (cur.toList.set o v).drop (o + 1 + vs.length) = cur.toList.drop (o + 1 + vs.length) := by
      rw [List.drop_set, if_pos (by omega)]
    rw [e1, e2, List.length_cons, show o + (vs.length + 1) = o + 1 + vs.length by omega]
    simp
theorem erase_split {α : Type} (p : List α) (k : Nat) : p.eraseIdx k = p.take k ++ p.drop (k + 1) := List.eraseIdx_eq_take_drop_succ p k
theorem fCells_take (p : List FV) (k : Nat) : (fCells p).take (k * 2) = fCells (p.take k) := by
  induction p generalizing k with
  | nil => simp [fCells]
  | cons x p ih =>
    cases k with
    | zero => simp [fCells]
    | succ k => rw [Nat.succ_mul]; simp only [fCells, List.take_succ_cons, ih]
def DelPost (g cap at_ : Nat) (p : List FV) (w : World) (e : Ending) (w' : World) : Prop :=
  e = .returned (.slice (some ⟨g, 0, none⟩) (p.length - 1) cap) ∧ But (fun b => b = g) w w' ∧ ∃ cur' : Array Value, Blk w' g 25 cur' ∧ cur'.size = cap * 2 ∧ cur'.toList.take ((p.length - 1) * 2) = fCells (p.eraseIdx at_)
end Go.Proofs.YtlpfbdejiifbpaaDoor
