/-
  THE WALKS of fields.In, fields.All, fields.Of.
-/
import Derived.Test.YtkgfelbkoffaiaaGreatDoorFitG
import Derived.Test.YtkgfelbkoffaiaaGreatDoorVennP2
import Derived.Test.YtkgfelbkoffaiaaGreatDoorSetsT
namespace Go.Proofs.YtkgfelbkoffaiaaGreatDoor
open Go.RowKit

theorem and_bit : ∀ (s : Fin 64) (i : Fin 6), bits .and .i64 (((s.val : Nat) : Int) / 2 ^ i.val) 1 = Venn.toI (Venn.bit ((s.val : Nat) : Int) i.val) := by decide +kernel
theorem and_bit' {s : Int} (hs : 0 ≤ s ∧ s ≤ 63) {i : Nat} (hi : i < 6) : bits .and .i64 (s / 2 ^ i) 1 = Venn.toI (Venn.bit s i) := by
  obtain ⟨S, rfl⟩ := Int.eq_ofNat_of_zero_le hs.1
  exact and_bit ⟨S, by omega⟩ ⟨i, hi⟩
theorem or_three : ∀ (x y z : Bool), bits .or .i64 (bits .or .i64 (bits .or .i64 0 (wrap64 (Venn.toI x))) (wrap64 (Venn.toI y * 2))) (wrap64 (Venn.toI z * 4)) = (((if x = true then 1 else 0) + (if y = true then 2 else 0) + (if z = true then 4 else 0) : Nat) : Int) := by decide +kernel

/-- So many in each field, of the first n things. -/
abbrev fcells (W : Venn.World) (n : Nat) : Array Value := #[.int .i64 (Venn.fieldsAt W n 0), .int .i64 (Venn.fieldsAt W n 1), .int .i64 (Venn.fieldsAt W n 2), .int .i64 (Venn.fieldsAt W n 3), .int .i64 (Venn.fieldsAt W n 4), .int .i64 (Venn.fieldsAt W n 5), .int .i64 (Venn.fieldsAt W n 6), .int .i64 (Venn.fieldsAt W n 7)]
theorem fcells_at (W : Venn.World) (n : Nat) {f : Nat} (hf : f < 8) : (fcells W n)[f]? = some (.int .i64 (Venn.fieldsAt W n f)) := by
  rcases (by omega : f = 0 ∨ f = 1 ∨ f = 2 ∨ f = 3 ∨ f = 4 ∨ f = 5 ∨ f = 6 ∨ f = 7) with rfl | rfl | rfl | rfl | rfl | rfl | rfl | rfl
  all_goals rfl
theorem fcells_step (W : Venn.World) (n : Nat) : (fcells W n).setIfInBounds (Venn.fieldIn W n) (.int .i64 (Venn.fieldsAt W n (Venn.fieldIn W n) + 1)) = fcells W (n + 1) := by
  have hf := Venn.fieldIn_lt W n
  have h : ∀ g, Venn.fieldsAt W (n + 1) g = Venn.fieldsAt W n g + (if Venn.fieldIn W n = g then 1 else 0) := fun g => rfl
  unfold fcells
  simp only [h]
  generalize Venn.fieldIn W n = f at hf
  rcases (by omega : f = 0 ∨ f = 1 ∨ f = 2 ∨ f = 3 ∨ f = 4 ∨ f = 5 ∨ f = 6 ∨ f = 7) with rfl | rfl | rfl | rfl | rfl | rfl | rfl | rfl
  all_goals simp

def fieldsV (W : Venn.World) : List Int := if Venn.worldChk W = 0 then Venn.fieldsOf W else [0, 0, 0, 0, 0, 0, 0, 0]
theorem boxes48 {w w1 : World} {tA tB : TypeId} {cs ds : Array Value} (hb : Below ((w.alloc (.cells cs tA)).alloc (.cells ds tB)).heap.size ((w.alloc (.cells cs tA)).alloc (.cells ds tB)) w1) :
    Blk w1 w.heap.size tA cs ∧ Blk w1 (w.heap.size + 1) tB ds := ⟨((Blk.new w _ _).alloc _).keep hb, (Blk.newAt (by simp) _ _).keep hb⟩
end Go.Proofs.YtkgfelbkoffaiaaGreatDoor
