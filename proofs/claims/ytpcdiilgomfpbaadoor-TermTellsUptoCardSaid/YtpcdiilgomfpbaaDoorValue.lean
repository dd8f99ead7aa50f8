/-
  THE WALK of term.Value.
-/
import Derived.Test.YtpcdiilgomfpbaaDoorWorld
import Derived.Test.YtpcdiilgomfpbaaDoorVennV
namespace Go.Proofs.YtpcdiilgomfpbaaDoor
open Go.RowKit

set_option maxHeartbeats 1000000 in
theorem term_Value (v : Value) (t : List Int) (th a b c : Int) (w : World) (h : IsInts w v t) :
    Calls Tryd.prog 23 #[v, .agg #[.int .i64 th, .int .i64 a, .int .i64 b, .int .i64 c]] w
      (Keeps (.tuple #[.int .i64 (Venn.valueV t ⟨th, a, b, c⟩), errV (Venn.valueChk t ⟨th, a, b, c⟩)]) w) := by
  by_cases h1 : Venn.termChk t = 0
  · have hc : Venn.valueChk t ⟨th, a, b, c⟩ = Venn.worldChk ⟨th, a, b, c⟩ := if_pos h1
    by_cases h2 : Venn.worldChk ⟨th, a, b, c⟩ = 0
    · rw [Venn.valueV, hc, if_pos h2, errV_zero h2]
      have hx := Lib.hid (errV_zero h1); have hy := Lib.hid (errV_zero h2)
      have H1 := Lib.hid h1; have H2 := Lib.hid h2
      clear h1 h2 hc
      go_enter Tryd.func23, Tryd.ntmps23
      go_wp2_with (go_at_call 45; refine (term_Check _ t _ (h.keep (by (repeat' (first | (with_reducible exact Below.refl _ _) | (with_reducible refine Below.next ?_ (by with_reducible assumption)) | (with_reducible refine Below.drew ?_) | (with_reducible refine Below.laid ?_ _) | (with_reducible refine Below.setCell ?_ ?_ _) | (with_reducible refine size_of ?_) | (with_reducible refine Nat.le_succ_of_le ?_) | go_size))))).mono ?_; rintro e w' ⟨rfl, rfl⟩; rw [hx.out])
      refine (term_World _ _ _ _ _).mono ?_
      rintro e w1 ⟨rfl, hb1⟩
      rw [hy.out]
      have hB := (Blk.new w 41 #[.int .i64 th, .int .i64 a, .int .i64 b, .int .i64 c]).keep hb1
      obtain ⟨c0, c1, c2, c3⟩ : w1.cell? ⟨w.heap.size, 0, none⟩ = some (.int .i64 th) ∧ w1.cell? ⟨w.heap.size, 1, none⟩ = some (.int .i64 a) ∧ w1.cell? ⟨w.heap.size, 2, none⟩ = some (.int .i64 b) ∧ w1.cell? ⟨w.heap.size, 3, none⟩ = some (.int .i64 c) :=
        ⟨hB.cell 0, hB.cell 1, hB.cell 2, hB.cell 3⟩
      go_wp2_with (go_at_call 72; refine (term_Set _ t _ _ _ _ _ (h.keep (by (repeat' (first | (with_reducible exact Below.refl _ _) | (with_reducible refine Below.next ?_ (by with_reducible assumption)) | (with_reducible refine Below.drew ?_) | (with_reducible refine Below.laid ?_ _) | (with_reducible refine Below.setCell ?_ ?_ _) | (with_reducible refine size_of ?_) | (with_reducible refine Nat.le_succ_of_le ?_) | go_size)))) H1.out H2.out).mono ?_; rintro e w2 ⟨rfl, hb2⟩)
      go_ret2
      exact ⟨rfl, by (repeat' (first | (with_reducible exact Below.refl _ _) | (with_reducible refine Below.next ?_ (by with_reducible assumption)) | (with_reducible refine Below.drew ?_) | (with_reducible refine Below.laid ?_ _) | (with_reducible refine Below.setCell ?_ ?_ _) | (with_reducible refine size_of ?_) | (with_reducible refine Nat.le_succ_of_le ?_) | go_size))⟩
    · rw [Venn.valueV, hc, if_neg h2, errV_ne h2]
      have hx := Lib.hid (errV_zero h1); have hy := Lib.hid (errV_ne h2)
      clear h1 h2 hc
      go_enter Tryd.func23, Tryd.ntmps23
      go_wp2_with (first
        | (go_at_call 45; refine (term_Check _ t _ (h.keep (by (repeat' (first | (with_reducible exact Below.refl _ _) | (with_reducible refine Below.next ?_ (by with_reducible assumption)) | (with_reducible refine Below.drew ?_) | (with_reducible refine Below.laid ?_ _) | (with_reducible refine Below.setCell ?_ ?_ _) | (with_reducible refine size_of ?_) | (with_reducible refine Nat.le_succ_of_le ?_) | go_size))))).mono ?_; rintro e w' ⟨rfl, rfl⟩; rw [hx.out])
        | (go_at_call 71; refine (term_World _ _ _ _ _).mono ?_; rintro e w1 ⟨rfl, hb1⟩; rw [hy.out]))
      go_ret2
      exact ⟨rfl, by (repeat' (first | (with_reducible exact Below.refl _ _) | (with_reducible refine Below.next ?_ (by with_reducible assumption)) | (with_reducible refine Below.drew ?_) | (with_reducible refine Below.laid ?_ _) | (with_reducible refine Below.setCell ?_ ?_ _) | (with_reducible refine size_of ?_) | (with_reducible refine Nat.le_succ_of_le ?_) | go_size))⟩
  · have hc : Venn.valueChk t ⟨th, a, b, c⟩ = Venn.termChk t := if_neg h1
    rw [Venn.valueV, hc, if_neg h1, errV_ne h1]
    have hx := Lib.hid (errV_ne h1)
    clear h1 hc
    go_enter Tryd.func23, Tryd.ntmps23
    go_wp2_with (go_at_call 45; refine (term_Check _ t _ (h.keep (by (repeat' (first | (with_reducible exact Below.refl _ _) | (with_reducible refine Below.next ?_ (by with_reducible assumption)) | (with_reducible refine Below.drew ?_) | (with_reducible refine Below.laid ?_ _) | (with_reducible refine Below.setCell ?_ ?_ _) | (with_reducible refine size_of ?_) | (with_reducible refine Nat.le_succ_of_le ?_) | go_size))))).mono ?_; rintro e w' ⟨rfl, rfl⟩; rw [hx.out])
    go_ret2
    exact ⟨rfl, by (repeat' (first | (with_reducible exact Below.refl _ _) | (with_reducible refine Below.next ?_ (by with_reducible assumption)) | (with_reducible refine Below.drew ?_) | (with_reducible refine Below.laid ?_ _) | (with_reducible refine Below.setCell ?_ ?_ _) | (with_reducible refine size_of ?_) | (with_reducible refine Nat.le_succ_of_le ?_) | go_size))⟩

end Go.Proofs.YtpcdiilgomfpbaaDoor
