/-
  THE WALK of fields.Where.
-/
import Derived.Test.YtpcdiilgomfpbaaDoorMade
import Derived.Test.YtpcdiilgomfpbaaDoorTermSet
import Derived.Test.YtpcdiilgomfpbaaDoorVennM
namespace Go.Proofs.YtpcdiilgomfpbaaDoor
open Go.RowKit

theorem made_u0 : Venn.made [1, 0, 0, 0, 0, 0, 0, 0] = ⟨1, 0, 0, 0⟩ := rfl
theorem made_u1 : Venn.made [0, 1, 0, 0, 0, 0, 0, 0] = ⟨1, 1, 0, 0⟩ := rfl
theorem made_u2 : Venn.made [0, 0, 1, 0, 0, 0, 0, 0] = ⟨1, 0, 1, 0⟩ := rfl
theorem made_u3 : Venn.made [0, 0, 0, 1, 0, 0, 0, 0] = ⟨1, 1, 1, 0⟩ := rfl
theorem made_u4 : Venn.made [0, 0, 0, 0, 1, 0, 0, 0] = ⟨1, 0, 0, 1⟩ := rfl
theorem made_u5 : Venn.made [0, 0, 0, 0, 0, 1, 0, 0] = ⟨1, 1, 0, 1⟩ := rfl
theorem made_u6 : Venn.made [0, 0, 0, 0, 0, 0, 1, 0] = ⟨1, 0, 1, 1⟩ := rfl
theorem made_u7 : Venn.made [0, 0, 0, 0, 0, 0, 0, 1] = ⟨1, 1, 1, 1⟩ := rfl

theorem or_nest : ∀ (x0 x1 x2 x3 x4 x5 x6 x7 : Fin 2), bits .or .i64 (bits .or .i64 (bits .or .i64 (bits .or .i64 (bits .or .i64 (bits .or .i64 (bits .or .i64 (bits .or .i64 ((0 : Int)) ((x0.val : Int))) ((x1.val : Int) * 2)) ((x2.val : Int) * 4)) ((x3.val : Int) * 8)) ((x4.val : Int) * 16)) ((x5.val : Int) * 32)) ((x6.val : Int) * 64)) ((x7.val : Int) * 128) = (x0.val : Int) + (x1.val : Int) * 2 + (x2.val : Int) * 4 + (x3.val : Int) * 8 + (x4.val : Int) * 16 + (x5.val : Int) * 32 + (x6.val : Int) * 64 + (x7.val : Int) * 128 := by decide +kernel
theorem or_nest' (x0 x1 x2 x3 x4 x5 x6 x7 : Int) (h : ∀ x ∈ [x0, x1, x2, x3, x4, x5, x6, x7], x = 0 ∨ x = 1) : bits .or .i64 (bits .or .i64 (bits .or .i64 (bits .or .i64 (bits .or .i64 (bits .or .i64 (bits .or .i64 (bits .or .i64 ((0 : Int)) (x0)) (x1 * 2)) (x2 * 4)) (x3 * 8)) (x4 * 16)) (x5 * 32)) (x6 * 64)) (x7 * 128) = x0 + x1 * 2 + x2 * 4 + x3 * 8 + x4 * 16 + x5 * 32 + x6 * 64 + x7 * 128 := by
  have hx : ∀ x ∈ [x0, x1, x2, x3, x4, x5, x6, x7], ∃ y : Fin 2, x = (y.val : Int) := fun x hm => by
    rcases h x hm with rfl | rfl
    · exact ⟨0, rfl⟩
    · exact ⟨1, rfl⟩
  obtain ⟨y0, e0⟩ := hx x0 (by simp)
  obtain ⟨y1, e1⟩ := hx x1 (by simp)
  obtain ⟨y2, e2⟩ := hx x2 (by simp)
  obtain ⟨y3, e3⟩ := hx x3 (by simp)
  obtain ⟨y4, e4⟩ := hx x4 (by simp)
  obtain ⟨y5, e5⟩ := hx x5 (by simp)
  obtain ⟨y6, e6⟩ := hx x6 (by simp)
  obtain ⟨y7, e7⟩ := hx x7 (by simp)
  rw [e0, e1, e2, e3, e4, e5, e6, e7]
  exact or_nest y0 y1 y2 y3 y4 y5 y6 y7
theorem where_value (t : List Int) : bits .or .i64 (bits .or .i64 (bits .or .i64 (bits .or .i64 (bits .or .i64 (bits .or .i64 (bits .or .i64 (bits .or .i64 ((0 : Int)) (Venn.lies t 0)) (Venn.lies t 1 * 2)) (Venn.lies t 2 * 4)) (Venn.lies t 3 * 8)) (Venn.lies t 4 * 16)) (Venn.lies t 5 * 32)) (Venn.lies t 6 * 64)) (Venn.lies t 7 * 128) = Venn.mask t := by
  rw [or_nest' (Venn.lies t 0) (Venn.lies t 1) (Venn.lies t 2) (Venn.lies t 3) (Venn.lies t 4) (Venn.lies t 5) (Venn.lies t 6) (Venn.lies t 7) (by
    intro x hx
    simp only [List.mem_cons, List.not_mem_nil, or_false] at hx
    rcases hx with rfl | rfl | rfl | rfl | rfl | rfl | rfl | rfl
    all_goals
      have := Venn.lies_01 t
      first | (have := this 0; omega) | (have := this 1; omega) | (have := this 2; omega) | (have := this 3; omega) | (have := this 4; omega) | (have := this 5; omega) | (have := this 6; omega) | (have := this 7; omega))]
  simp [Venn.mask, Venn.maskTo]

set_option maxHeartbeats 4000000 in
set_option maxRecDepth 100000 in
theorem fields_Where (v : Value) (t : List Int) (w : World) (h : IsInts w v t) (ht : Venn.termChk t = 0) : Calls Tryd.prog 100 #[v] w (Keeps (.int .i64 (Venn.mask t)) w) := by
  have l0 := Venn.lies_01 t 0
  have l1 := Venn.lies_01 t 1
  have l2 := Venn.lies_01 t 2
  have l3 := Venn.lies_01 t 3
  have l4 := Venn.lies_01 t 4
  have l5 := Venn.lies_01 t 5
  have l6 := Venn.lies_01 t 6
  have l7 := Venn.lies_01 t 7
  go_enter Tryd.func100, Tryd.ntmps100
  go_wp2
  refine wp_loop_rounds 9 ?_
  rw [rounds_succ]
  go_wp2_with (first
    | (go_at_call 76; refine (fields_Made _ _ _ _ _ _ _ _ _ (by decide) (by decide)).mono ?_; rintro e m0 ⟨rfl, hm0⟩; simp only [made_u0])
    | (go_at_call 72; refine (term_Set _ t _ _ _ _ _ (h.keep (by (repeat' (first | (with_reducible exact Below.refl _ _) | (with_reducible refine Below.next ?_ (by with_reducible assumption)) | (with_reducible refine Below.drew ?_) | (with_reducible refine Below.laid ?_ _) | (with_reducible refine Below.setCell ?_ ?_ _) | (with_reducible refine size_of ?_) | (with_reducible refine Nat.le_succ_of_le ?_) | go_size)))) ht (by decide)).mono ?_; rintro e s0 ⟨rfl, hs0⟩; rw [show Venn.termSet t ⟨1, 0, 0, 0⟩ = Venn.lies t 0 from rfl]))
  rw [rounds_succ]
  go_wp2_with (first
    | (go_at_call 76; refine (fields_Made _ _ _ _ _ _ _ _ _ (by decide) (by decide)).mono ?_; rintro e m1 ⟨rfl, hm1⟩; simp only [made_u1])
    | (go_at_call 72; refine (term_Set _ t _ _ _ _ _ (h.keep (by (repeat' (first | (with_reducible exact Below.refl _ _) | (with_reducible refine Below.next ?_ (by with_reducible assumption)) | (with_reducible refine Below.drew ?_) | (with_reducible refine Below.laid ?_ _) | (with_reducible refine Below.setCell ?_ ?_ _) | (with_reducible refine size_of ?_) | (with_reducible refine Nat.le_succ_of_le ?_) | go_size)))) ht (by decide)).mono ?_; rintro e s1 ⟨rfl, hs1⟩; rw [show Venn.termSet t ⟨1, 1, 0, 0⟩ = Venn.lies t 1 from rfl]))
  rw [rounds_succ]
  go_wp2_with (first
    | (go_at_call 76; refine (fields_Made _ _ _ _ _ _ _ _ _ (by decide) (by decide)).mono ?_; rintro e m2 ⟨rfl, hm2⟩; simp only [made_u2])
    | (go_at_call 72; refine (term_Set _ t _ _ _ _ _ (h.keep (by (repeat' (first | (with_reducible exact Below.refl _ _) | (with_reducible refine Below.next ?_ (by with_reducible assumption)) | (with_reducible refine Below.drew ?_) | (with_reducible refine Below.laid ?_ _) | (with_reducible refine Below.setCell ?_ ?_ _) | (with_reducible refine size_of ?_) | (with_reducible refine Nat.le_succ_of_le ?_) | go_size)))) ht (by decide)).mono ?_; rintro e s2 ⟨rfl, hs2⟩; rw [show Venn.termSet t ⟨1, 0, 1, 0⟩ = Venn.lies t 2 from rfl]))
  rw [rounds_succ]
  go_wp2_with (first
    | (go_at_call 76; refine (fields_Made _ _ _ _ _ _ _ _ _ (by decide) (by decide)).mono ?_; rintro e m3 ⟨rfl, hm3⟩; simp only [made_u3])
    | (go_at_call 72; refine (term_Set _ t _ _ _ _ _ (h.keep (by (repeat' (first | (with_reducible exact Below.refl _ _) | (with_reducible refine Below.next ?_ (by with_reducible assumption)) | (with_reducible refine Below.drew ?_) | (with_reducible refine Below.laid ?_ _) | (with_reducible refine Below.setCell ?_ ?_ _) | (with_reducible refine size_of ?_) | (with_reducible refine Nat.le_succ_of_le ?_) | go_size)))) ht (by decide)).mono ?_; rintro e s3 ⟨rfl, hs3⟩; rw [show Venn.termSet t ⟨1, 1, 1, 0⟩ = Venn.lies t 3 from rfl]))
  rw [rounds_succ]
  go_wp2_with (first
    | (go_at_call 76; refine (fields_Made _ _ _ _ _ _ _ _ _ (by decide) (by decide)).mono ?_; rintro e m4 ⟨rfl, hm4⟩; simp only [made_u4])
    | (go_at_call 72; refine (term_Set _ t _ _ _ _ _ (h.keep (by (repeat' (first | (with_reducible exact Below.refl _ _) | (with_reducible refine Below.next ?_ (by with_reducible assumption)) | (with_reducible refine Below.drew ?_) | (with_reducible refine Below.laid ?_ _) | (with_reducible refine Below.setCell ?_ ?_ _) | (with_reducible refine size_of ?_) | (with_reducible refine Nat.le_succ_of_le ?_) | go_size)))) ht (by decide)).mono ?_; rintro e s4 ⟨rfl, hs4⟩; rw [show Venn.termSet t ⟨1, 0, 0, 1⟩ = Venn.lies t 4 from rfl]))
  rw [rounds_succ]
  go_wp2_with (first
    | (go_at_call 76; refine (fields_Made _ _ _ _ _ _ _ _ _ (by decide) (by decide)).mono ?_; rintro e m5 ⟨rfl, hm5⟩; simp only [made_u5])
    | (go_at_call 72; refine (term_Set _ t _ _ _ _ _ (h.keep (by (repeat' (first | (with_reducible exact Below.refl _ _) | (with_reducible refine Below.next ?_ (by with_reducible assumption)) | (with_reducible refine Below.drew ?_) | (with_reducible refine Below.laid ?_ _) | (with_reducible refine Below.setCell ?_ ?_ _) | (with_reducible refine size_of ?_) | (with_reducible refine Nat.le_succ_of_le ?_) | go_size)))) ht (by decide)).mono ?_; rintro e s5 ⟨rfl, hs5⟩; rw [show Venn.termSet t ⟨1, 1, 0, 1⟩ = Venn.lies t 5 from rfl]))
  rw [rounds_succ]
  go_wp2_with (first
    | (go_at_call 76; refine (fields_Made _ _ _ _ _ _ _ _ _ (by decide) (by decide)).mono ?_; rintro e m6 ⟨rfl, hm6⟩; simp only [made_u6])
    | (go_at_call 72; refine (term_Set _ t _ _ _ _ _ (h.keep (by (repeat' (first | (with_reducible exact Below.refl _ _) | (with_reducible refine Below.next ?_ (by with_reducible assumption)) | (with_reducible refine Below.drew ?_) | (with_reducible refine Below.laid ?_ _) | (with_reducible refine Below.setCell ?_ ?_ _) | (with_reducible refine size_of ?_) | (with_reducible refine Nat.le_succ_of_le ?_) | go_size)))) ht (by decide)).mono ?_; rintro e s6 ⟨rfl, hs6⟩; rw [show Venn.termSet t ⟨1, 0, 1, 1⟩ = Venn.lies t 6 from rfl]))
  rw [rounds_succ]
  go_wp2_with (first
    | (go_at_call 76; refine (fields_Made _ _ _ _ _ _ _ _ _ (by decide) (by decide)).mono ?_; rintro e m7 ⟨rfl, hm7⟩; simp only [made_u7])
    | (go_at_call 72; refine (term_Set _ t _ _ _ _ _ (h.keep (by (repeat' (first | (with_reducible exact Below.refl _ _) | (with_reducible refine Below.next ?_ (by with_reducible assumption)) | (with_reducible refine Below.drew ?_) | (with_reducible refine Below.laid ?_ _) | (with_reducible refine Below.setCell ?_ ?_ _) | (with_reducible refine size_of ?_) | (with_reducible refine Nat.le_succ_of_le ?_) | go_size)))) ht (by decide)).mono ?_; rintro e s7 ⟨rfl, hs7⟩; rw [show Venn.termSet t ⟨1, 1, 1, 1⟩ = Venn.lies t 7 from rfl]))
  rw [rounds_succ]
  go_wp2
  go_ret
  exact ⟨ret_int (where_value t), by (repeat' (first | (with_reducible exact Below.refl _ _) | (with_reducible refine Below.next ?_ (by with_reducible assumption)) | (with_reducible refine Below.drew ?_) | (with_reducible refine Below.laid ?_ _) | (with_reducible refine Below.setCell ?_ ?_ _) | (with_reducible refine size_of ?_) | (with_reducible refine Nat.le_succ_of_le ?_) | go_size))⟩

end Go.Proofs.YtpcdiilgomfpbaaDoor
