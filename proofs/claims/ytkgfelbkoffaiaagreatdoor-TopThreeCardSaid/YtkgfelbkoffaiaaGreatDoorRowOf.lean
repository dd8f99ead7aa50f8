/-
  THE WALK of rows.Of.
-/
import Derived.Test.YtkgfelbkoffaiaaGreatDoorRowG
namespace Go.Proofs.YtkgfelbkoffaiaaGreatDoor
open Go.RowKit

/-- A row whose cells are 0. -/
def rowZ : Value := .agg zero9
/-- What rows.Of gives: the row, or 0. -/
def rowOfV (a : Venn.Atom) (h : Bool) : Value := if Venn.atomChk a = 0 then rowV a h else rowZ
theorem boxes49 {w w1 : World} {tA tB : TypeId} {x0 x1 x2 x3 : Value} {cs : Array Value}
    (hb : Below ((w.alloc (.cells #[x0, x1, x2, x3] tA)).alloc (.cells cs tB)).heap.size ((w.alloc (.cells #[x0, x1, x2, x3] tA)).alloc (.cells cs tB)) w1) :
    Blk w1 w.heap.size tA #[x0, x1, x2, x3] ∧ Blk w1 (w.heap.size + 1) tB cs :=
  ⟨((Blk.new w _ _).alloc _).keep hb, (Blk.newAt (by simp) _ _).keep hb⟩

set_option maxHeartbeats 1000000 in
set_option maxRecDepth 100000 in
theorem rows_Of (what n : Int) (sv tv : Value) (s t : List Int) (holds : Bool) (w : World) (hs : IsInts w sv s) (ht : IsInts w tv t) (hk : KindsOk w) :
    Calls Tryz.prog 13 #[.agg #[.int .i64 what, sv, tv, .int .i64 n], .bool holds] w (Keeps (.tuple #[rowOfV ⟨what, s, t, n⟩ holds, errV (Venn.atomChk ⟨what, s, t, n⟩)]) w) := by
  obtain ⟨tA, tc, rfl, htr, htl, htc⟩ := ht
  have HTT : IsInts w (.slice tA t.length tc) t := ⟨tA, tc, rfl, htr, htl, htc⟩
  clear htr htl htc
  obtain ⟨sA, sc, rfl, hsr, hsl, hsc⟩ := hs
  have HSS : IsInts w (.slice sA s.length sc) s := ⟨sA, sc, rfl, hsr, hsl, hsc⟩
  clear hsr hsl hsc
  by_cases h1 : Venn.atomChk ⟨what, s, t, n⟩ = 0
  · rw [rowOfV, if_pos h1, errV_zero h1]
    have hx := Lib.hid (errV_zero h1)
    have H1 := Lib.hid h1
    have HV := Lib.hid (show rowV ⟨what, s, t, n⟩ holds = _ from rfl)
    clear h1
    obtain ⟨y0, hy0⟩ : ∃ x, x = Venn.rowT ⟨what, s, t, n⟩ holds 0 := ⟨_, rfl⟩
    obtain ⟨y1, hy1⟩ : ∃ x, x = Venn.rowT ⟨what, s, t, n⟩ holds 1 := ⟨_, rfl⟩
    obtain ⟨y2, hy2⟩ : ∃ x, x = Venn.rowT ⟨what, s, t, n⟩ holds 2 := ⟨_, rfl⟩
    obtain ⟨y3, hy3⟩ : ∃ x, x = Venn.rowT ⟨what, s, t, n⟩ holds 3 := ⟨_, rfl⟩
    obtain ⟨y4, hy4⟩ : ∃ x, x = Venn.rowT ⟨what, s, t, n⟩ holds 4 := ⟨_, rfl⟩
    obtain ⟨y5, hy5⟩ : ∃ x, x = Venn.rowT ⟨what, s, t, n⟩ holds 5 := ⟨_, rfl⟩
    obtain ⟨y6, hy6⟩ : ∃ x, x = Venn.rowT ⟨what, s, t, n⟩ holds 6 := ⟨_, rfl⟩
    obtain ⟨y7, hy7⟩ : ∃ x, x = Venn.rowT ⟨what, s, t, n⟩ holds 7 := ⟨_, rfl⟩
    obtain ⟨y8, hy8⟩ : ∃ x, x = Venn.rowM ⟨what, s, t, n⟩ holds := ⟨_, rfl⟩
    have HR := Lib.hid (show rowV ⟨what, s, t, n⟩ holds = .agg #[.int .i64 y0, .int .i64 y1, .int .i64 y2, .int .i64 y3, .int .i64 y4, .int .i64 y5, .int .i64 y6, .int .i64 y7, .int .i64 y8] by rw [rowV, hy0, hy1, hy2, hy3, hy4, hy5, hy6, hy7, hy8])
    clear hy0 hy1 hy2 hy3 hy4 hy5 hy6 hy7 hy8 HV
    rw [HR.out]
    go_enter Tryz.func13, Tryz.ntmps13
    go_wp2_with fail
    refine (atom_Check _ _ _ _ s t _ (HSS.keep (by (repeat' (first | (with_reducible exact Below.refl _ _) | (with_reducible assumption) | (with_reducible refine Below.next ?_ (by with_reducible assumption)) | (with_reducible refine Below.drew ?_) | (with_reducible refine Below.laid ?_ _) | (with_reducible refine Below.setCell ?_ ?_ _) | (with_reducible refine size_of ?_) | (with_reducible refine Nat.le_succ_of_le ?_) | go_size)))) (HTT.keep (by (repeat' (first | (with_reducible exact Below.refl _ _) | (with_reducible assumption) | (with_reducible refine Below.next ?_ (by with_reducible assumption)) | (with_reducible refine Below.drew ?_) | (with_reducible refine Below.laid ?_ _) | (with_reducible refine Below.setCell ?_ ?_ _) | (with_reducible refine size_of ?_) | (with_reducible refine Nat.le_succ_of_le ?_) | go_size)))) (hk.keep (by (repeat' (first | (with_reducible exact Below.refl _ _) | (with_reducible assumption) | (with_reducible refine Below.next ?_ (by with_reducible assumption)) | (with_reducible refine Below.drew ?_) | (with_reducible refine Below.laid ?_ _) | (with_reducible refine Below.setCell ?_ ?_ _) | (with_reducible refine size_of ?_) | (with_reducible refine Nat.le_succ_of_le ?_) | go_size))))).mono ?_
    rintro e w1 ⟨rfl, hb1⟩
    rw [hx.out]
    obtain ⟨BA, BW⟩ := boxes49 hb1
    obtain ⟨a0, a1, a2, a3⟩ := BA.cells4
    go_wp2_with fail
    refine (rows_Row _ _ _ _ s t holds _ (HSS.keep (by (repeat' (first | (with_reducible exact Below.refl _ _) | (with_reducible assumption) | (with_reducible refine Below.next ?_ (by with_reducible assumption)) | (with_reducible refine Below.drew ?_) | (with_reducible refine Below.laid ?_ _) | (with_reducible refine Below.setCell ?_ ?_ _) | (with_reducible refine size_of ?_) | (with_reducible refine Nat.le_succ_of_le ?_) | go_size)))) (HTT.keep (by (repeat' (first | (with_reducible exact Below.refl _ _) | (with_reducible assumption) | (with_reducible refine Below.next ?_ (by with_reducible assumption)) | (with_reducible refine Below.drew ?_) | (with_reducible refine Below.laid ?_ _) | (with_reducible refine Below.setCell ?_ ?_ _) | (with_reducible refine size_of ?_) | (with_reducible refine Nat.le_succ_of_le ?_) | go_size)))) H1.out).mono ?_
    rintro e w2 ⟨rfl, hb2⟩
    rw [HR.out]
    obtain ⟨⟨d0, d1, d2, d3, d4, d5, d6, d7, d8⟩, f0, f1, f2, f3, f4, f5, f6, f7, f8⟩ := (BW.keep hb2).cells9
    go_wp2
    refine bodyPost_ret (v := .tuple #[.agg #[.int .i64 y0, .int .i64 y1, .int .i64 y2, .int .i64 y3, .int .i64 y4, .int .i64 y5, .int .i64 y6, .int .i64 y7, .int .i64 y8], .nilIface]) (by simp [results, Tryz.results13, go_sem, d0, d1, d2, d3, d4, d5, d6, d7, d8]) rfl ⟨rfl, ?_⟩
    exact below_set9 (by (repeat' (first | (with_reducible exact Below.refl _ _) | (with_reducible assumption) | (with_reducible refine Below.next ?_ (by with_reducible assumption)) | (with_reducible refine Below.drew ?_) | (with_reducible refine Below.laid ?_ _) | (with_reducible refine Below.setCell ?_ ?_ _) | (with_reducible refine size_of ?_) | (with_reducible refine Nat.le_succ_of_le ?_) | go_size))) (by go_size) _ _ _ _ _ _ _ _ _
  · rw [rowOfV, if_neg h1, errV_ne h1]
    have hx := Lib.hid (errV_ne h1)
    clear h1
    unfold rowZ
    go_enter Tryz.func13, Tryz.ntmps13
    go_wp2_with fail
    refine (atom_Check _ _ _ _ s t _ (HSS.keep (by (repeat' (first | (with_reducible exact Below.refl _ _) | (with_reducible assumption) | (with_reducible refine Below.next ?_ (by with_reducible assumption)) | (with_reducible refine Below.drew ?_) | (with_reducible refine Below.laid ?_ _) | (with_reducible refine Below.setCell ?_ ?_ _) | (with_reducible refine size_of ?_) | (with_reducible refine Nat.le_succ_of_le ?_) | go_size)))) (HTT.keep (by (repeat' (first | (with_reducible exact Below.refl _ _) | (with_reducible assumption) | (with_reducible refine Below.next ?_ (by with_reducible assumption)) | (with_reducible refine Below.drew ?_) | (with_reducible refine Below.laid ?_ _) | (with_reducible refine Below.setCell ?_ ?_ _) | (with_reducible refine size_of ?_) | (with_reducible refine Nat.le_succ_of_le ?_) | go_size)))) (hk.keep (by (repeat' (first | (with_reducible exact Below.refl _ _) | (with_reducible assumption) | (with_reducible refine Below.next ?_ (by with_reducible assumption)) | (with_reducible refine Below.drew ?_) | (with_reducible refine Below.laid ?_ _) | (with_reducible refine Below.setCell ?_ ?_ _) | (with_reducible refine size_of ?_) | (with_reducible refine Nat.le_succ_of_le ?_) | go_size))))).mono ?_
    rintro e w1 ⟨rfl, hb1⟩
    rw [hx.out]
    obtain ⟨BA, BW⟩ := boxes49 hb1
    obtain ⟨a0, a1, a2, a3⟩ := BA.cells4
    obtain ⟨⟨d0, d1, d2, d3, d4, d5, d6, d7, d8⟩, f0, f1, f2, f3, f4, f5, f6, f7, f8⟩ := BW.cells9
    go_wp2
    refine bodyPost_ret (v := .tuple #[.agg zero9, .iface 80 (.int .i64 (Venn.atomChk ⟨what, s, t, n⟩))]) (by simp [results, Tryz.results13, go_sem, d0, d1, d2, d3, d4, d5, d6, d7, d8]) rfl ⟨rfl, ?_⟩
    exact below_set9 (by (repeat' (first | (with_reducible exact Below.refl _ _) | (with_reducible assumption) | (with_reducible refine Below.next ?_ (by with_reducible assumption)) | (with_reducible refine Below.drew ?_) | (with_reducible refine Below.laid ?_ _) | (with_reducible refine Below.setCell ?_ ?_ _) | (with_reducible refine size_of ?_) | (with_reducible refine Nat.le_succ_of_le ?_) | go_size))) (by go_size) _ _ _ _ _ _ _ _ _
end Go.Proofs.YtkgfelbkoffaiaaGreatDoor
