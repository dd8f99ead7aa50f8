/-
  THE WALKS of package some, of alike.Name and vennlaw4.atomOf.
-/
import Derived.Test.YtlpfbdejiifbpaaGreatDoorFormTrue
import Derived.Test.YtlpfbdejiifbpaaGreatDoorVennP1
namespace Go.Proofs.YtlpfbdejiifbpaaGreatDoor
open Go.RowKit

theorem boxes24 {w w1 : World} {tA tB : TypeId} {cs ds : Array Value}
    (hb : Below ((w.alloc (.cells cs tA)).alloc (.cells ds tB)).heap.size ((w.alloc (.cells cs tA)).alloc (.cells ds tB)) w1) :
    Blk w1 w.heap.size tA cs ∧ Blk w1 (w.heap.size + 1) tB ds :=
  ⟨((Blk.new w _ _).alloc _).keep hb, (Blk.newAt (by simp) _ _).keep hb⟩

theorem setChk_le {th : Int} (h : Venn.things th = true) {k : Nat} (hk : (k : Int) ≤ Venn.allS th) : Venn.setChk th (k : Int) = 0 := by
  rw [Venn.setChk, if_pos]
  simp [h, Venn.rightS, hk]
theorem allS_63 {th : Int} (h : Venn.things th = true) : 0 ≤ Venn.allS th ∧ Venn.allS th ≤ 63 ∧ Venn.allS th + 1 = ((2 ^ th.toNat : Nat) : Int) := by
  simp only [Venn.things, Bool.and_eq_true, decide_eq_true_eq] at h
  obtain ⟨T, rfl⟩ := Int.eq_ofNat_of_zero_le h.1
  rcases (by omega : T = 0 ∨ T = 1 ∨ T = 2 ∨ T = 3 ∨ T = 4 ∨ T = 5 ∨ T = 6) with rfl | rfl | rfl | rfl | rfl | rfl | rfl
  all_goals decide

theorem someChk_parts {f : Venn.Form} {name : Int} {W : Venn.World} (h : Venn.someChk f name W = 0) : Venn.formChk f = 0 ∧ Venn.nameOk name = true ∧ Venn.worldChk W = 0 := by
  unfold Venn.someChk at h
  split at h
  · rename_i h1
    split at h
    · rename_i h2
      exact ⟨h1, h2, h⟩
    · cases h
  · contradiction

def someIsV (l : List Venn.Atom) (c : List Int) (name th a b d : Int) : Bool := if Venn.someChk ⟨l, c⟩ name ⟨th, a, b, d⟩ = 0 then decide (0 ≤ Venn.firstSet ⟨l, c⟩ name ⟨th, a, b, d⟩ true) else false
def someEachV (l : List Venn.Atom) (c : List Int) (name th a b d : Int) : Bool := if Venn.someChk ⟨l, c⟩ name ⟨th, a, b, d⟩ = 0 then decide (Venn.firstSet ⟨l, c⟩ name ⟨th, a, b, d⟩ false < 0) else false
theorem IsIntsNil (w : World) : IsInts w (.slice none 0 0) [] := ⟨none, 0, rfl, Rd.nil _ _, Nat.le_refl _, by simp⟩
theorem IsInts.of_blk1 {w : World} {g : Nat} {t : TypeId} {x : Int} (h : Blk w g t #[.int .i64 x]) : IsInts w (.slice (some ⟨g, 0, none⟩) 1 1) [x] := by
  refine ⟨_, _, rfl, fun j u hj => ⟨_, rfl, ?_⟩, Nat.le_refl _, by simp [maxLen]⟩
  match j, hj with
  | 0, hj => simp at hj; subst hj; exact h.cell 0
theorem IsAtoms.one {w : World} {g : Nat} {t : TypeId} {a : Venn.Atom} {sv tv : Value} (h : Blk w g t #[.int .i64 a.what, sv, tv, .int .i64 a.n]) (hs : IsInts w sv a.s) (ht : IsInts w tv a.t) : IsAtoms w (.slice (some ⟨g, 0, none⟩) 1 1) [a] := by
  refine ⟨_, _, rfl, fun k x hx => ?_, Nat.le_refl _, by simp [maxLen]⟩
  match k, hx with
  | 0, hx =>
    simp at hx
    subst hx
    exact ⟨_, sv, tv, rfl, h.cell 0, h.cell 1, h.cell 2, h.cell 3, hs, ht⟩
set_option maxHeartbeats 1000000 in
theorem vennlaw4_atomOf (name n : Int) (w : World) : Calls Tryz.prog 24 #[.int .i64 name, .int .i64 n] w (fun e w' => ∃ A C, e = .returned (.agg #[.slice (some A) 1 1, .slice (some C) 1 1]) ∧ Below w.heap.size w w' ∧ IsAtoms w' (.slice (some A) 1 1) [⟨3, [name], [], n⟩] ∧ IsInts w' (.slice (some C) 1 1) [0]) := by
  go_enter Tryz.func24, Tryz.ntmps24
  go_wp2
  have B1 : Blk ((((w.alloc (.cells #[.slice (some ⟨w.heap.size + 1 + 1, 0, none⟩) 1 1, .slice (some ⟨w.heap.size + 1 + 1 + 1, 0, none⟩) 1 1] 25)).alloc (.cells #[.int .i64 name] 3)).alloc (.cells #[.int .i64 3, .slice (some ⟨w.heap.size + 1, 0, none⟩) 1 1, .slice none 0 0, .int .i64 n] 42)).alloc (.cells #[.int .i64 0] 3)) (w.heap.size + 1) 3 #[.int .i64 name] := ((Blk.newAt (by simp) _ _).alloc _).alloc _
  have B2 : Blk ((((w.alloc (.cells #[.slice (some ⟨w.heap.size + 1 + 1, 0, none⟩) 1 1, .slice (some ⟨w.heap.size + 1 + 1 + 1, 0, none⟩) 1 1] 25)).alloc (.cells #[.int .i64 name] 3)).alloc (.cells #[.int .i64 3, .slice (some ⟨w.heap.size + 1, 0, none⟩) 1 1, .slice none 0 0, .int .i64 n] 42)).alloc (.cells #[.int .i64 0] 3)) (w.heap.size + 1 + 1) 42 #[.int .i64 3, .slice (some ⟨w.heap.size + 1, 0, none⟩) 1 1, .slice none 0 0, .int .i64 n] := (Blk.newAt (by simp) _ _).alloc _
  have B3 : Blk ((((w.alloc (.cells #[.slice (some ⟨w.heap.size + 1 + 1, 0, none⟩) 1 1, .slice (some ⟨w.heap.size + 1 + 1 + 1, 0, none⟩) 1 1] 25)).alloc (.cells #[.int .i64 name] 3)).alloc (.cells #[.int .i64 3, .slice (some ⟨w.heap.size + 1, 0, none⟩) 1 1, .slice none 0 0, .int .i64 n] 42)).alloc (.cells #[.int .i64 0] 3)) (w.heap.size + 1 + 1 + 1) 3 #[.int .i64 0] := Blk.newAt (by simp) _ _
  refine bodyPost_ret (v := .agg #[.slice (some ⟨w.heap.size + 1 + 1, 0, none⟩) 1 1, .slice (some ⟨w.heap.size + 1 + 1 + 1, 0, none⟩) 1 1]) (by simp [results, Tryz.results24, go_sem]) rfl ⟨_, _, rfl, by (repeat' (first | (with_reducible exact Below.refl _ _) | (with_reducible assumption) | (with_reducible refine Below.next ?_ (by with_reducible assumption)) | (with_reducible refine Below.drew ?_) | (with_reducible refine Below.laid ?_ _) | (with_reducible refine Below.setCell ?_ ?_ _) | (with_reducible refine size_of ?_) | (with_reducible refine Nat.le_succ_of_le ?_) | go_size)), IsAtoms.one B2 (IsInts.of_blk1 B1) (IsIntsNil _), IsInts.of_blk1 B3⟩
end Go.Proofs.YtlpfbdejiifbpaaGreatDoor
