/-
  FORMULAS OF ONE ATOM IN BOXES; slices of two and three formulas.
-/
import Derived.Test.YtcbjmfljdmomhaaDoorCoreSome
import Derived.Test.YtcbjmfljdmomhaaDoorSome
namespace Go.Proofs.YtcbjmfljdmomhaaDoor
open Go.RowKit

/-- A formula in a box. -/
structure FormAt (w : World) (X : Nat) (sa sc : Value) (f : Venn.Form) : Prop where
  box : Blk w X 31 #[sa, sc]
  ha : IsAtoms w sa f.atoms
  hc : IsInts w sc f.code
theorem FormAt.keep {w w' : World} {X : Nat} {sa sc : Value} {f : Venn.Form} (h : FormAt w X sa sc f) (hb : Below w.heap.size w w') : FormAt w' X sa sc f := ⟨h.box.keep hb, h.ha.keep hb, h.hc.keep hb⟩
theorem FormAt.one (w : World) (what n : Int) (tv : Value) (t : List Int) (ht : IsInts w tv t) :
    FormAt (((w.alloc (.cells #[.int .i64 what, tv, .slice none 0 0, .int .i64 n] 28)).alloc (.cells #[.int .i64 0] 3)).alloc (.cells #[.slice (some ⟨w.heap.size, 0, none⟩) 1 1, .slice (some ⟨w.heap.size + 1, 0, none⟩) 1 1] 31))
      (w.heap.size + 1 + 1) (.slice (some ⟨w.heap.size, 0, none⟩) 1 1) (.slice (some ⟨w.heap.size + 1, 0, none⟩) 1 1) ⟨[⟨what, t, [], n⟩], [0]⟩ ∧
    Below w.heap.size w (((w.alloc (.cells #[.int .i64 what, tv, .slice none 0 0, .int .i64 n] 28)).alloc (.cells #[.int .i64 0] 3)).alloc (.cells #[.slice (some ⟨w.heap.size, 0, none⟩) 1 1, .slice (some ⟨w.heap.size + 1, 0, none⟩) 1 1] 31)) :=
  ⟨⟨Blk.newAt (by simp) _ _, IsAtoms.one (a := ⟨what, t, [], n⟩) (((Blk.new _ _ _).alloc _).alloc _) (ht.keep (by (repeat' (first | (with_reducible exact Below.refl _ _) | (with_reducible assumption) | (with_reducible refine Below.next ?_ (by with_reducible assumption)) | (with_reducible refine Below.drew ?_) | (with_reducible refine Below.laid ?_ _) | (with_reducible refine Below.setCell ?_ ?_ _) | (with_reducible refine size_of ?_) | (with_reducible refine Nat.le_succ_of_le ?_) | go_size)))) (IsIntsNil _), IsInts.of_blk1 ((Blk.newAt (by simp) _ _).alloc _)⟩, by (repeat' (first | (with_reducible exact Below.refl _ _) | (with_reducible assumption) | (with_reducible refine Below.next ?_ (by with_reducible assumption)) | (with_reducible refine Below.drew ?_) | (with_reducible refine Below.laid ?_ _) | (with_reducible refine Below.setCell ?_ ?_ _) | (with_reducible refine size_of ?_) | (with_reducible refine Nat.le_succ_of_le ?_) | go_size))⟩
theorem IsForms.two {w : World} {g : Nat} {t : TypeId} {f1 f2 : Venn.Form} {sa sc ta tc : Value} (h : Blk w g t #[sa, sc, ta, tc]) (ha : IsAtoms w sa f1.atoms) (hc : IsInts w sc f1.code) (ka : IsAtoms w ta f2.atoms) (kc : IsInts w tc f2.code) :
    IsForms w (.slice (some ⟨g, 0, none⟩) 2 2) [f1, f2] := by
  refine ⟨_, _, rfl, fun k x hx => ?_, Nat.le_refl _, by simp [maxLen]⟩
  match k, hx with
  | 0, hx =>
    simp at hx
    subst hx
    exact ⟨_, sa, sc, rfl, h.cell 0, h.cell 1, ha, hc⟩
  | 1, hx =>
    simp at hx
    subst hx
    exact ⟨_, ta, tc, rfl, h.cell 2, h.cell 3, ka, kc⟩
theorem IsForms.three {w : World} {g : Nat} {t : TypeId} {f1 f2 f3 : Venn.Form} {sa sc ta tc ua uc : Value} (h : Blk w g t #[sa, sc, ta, tc, ua, uc]) (ha : IsAtoms w sa f1.atoms) (hc : IsInts w sc f1.code) (ka : IsAtoms w ta f2.atoms) (kc : IsInts w tc f2.code) (la : IsAtoms w ua f3.atoms) (lc : IsInts w uc f3.code) :
    IsForms w (.slice (some ⟨g, 0, none⟩) 3 3) [f1, f2, f3] := by
  refine ⟨_, _, rfl, fun k x hx => ?_, Nat.le_refl _, by simp [maxLen]⟩
  match k, hx with
  | 0, hx =>
    simp at hx
    subst hx
    exact ⟨_, sa, sc, rfl, h.cell 0, h.cell 1, ha, hc⟩
  | 1, hx =>
    simp at hx
    subst hx
    exact ⟨_, ta, tc, rfl, h.cell 2, h.cell 3, ka, kc⟩
  | 2, hx =>
    simp at hx
    subst hx
    exact ⟨_, ua, uc, rfl, h.cell 4, h.cell 5, la, lc⟩
end Go.Proofs.YtcbjmfljdmomhaaDoor
