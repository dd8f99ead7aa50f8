/-
  THE WALK of vennlaw1.SetsTell.
-/
import Derived.Test.YteikjcboehilpaaDoorRefSets
import Derived.Test.YteikjcboehilpaaDoorDoor
namespace Go.Proofs.YteikjcboehilpaaDoor
open Go.RowKit

theorem setsTell_cases (what u a b i : Int) : (Venn.setChk u a = 1 ∧ Venn.sizeV u a = 0 ∧ Venn.hasV u a i = false ∧ Venn.hasChk u a i = 1 ∧ Venn.setDoV what u a b = 0 ∧ Venn.setDoChk what u a b = 1) ∨
    (Venn.setChk u a = 0 ∧ Venn.sizeV u a = Venn.many a ∧ (((i < 0 ∨ u ≤ i) ∧ Venn.hasV u a i = false ∧ Venn.hasChk u a i = 1) ∨ (0 ≤ i ∧ i < u ∧ Venn.hasV u a i = Venn.bit a i.toNat ∧ Venn.hasChk u a i = 0)) ∧
      ((Venn.setChk u b = 1 ∧ Venn.setDoV what u a b = 0 ∧ Venn.setDoChk what u a b = 1) ∨ (Venn.setChk u b = 0 ∧ (what < 5 ∨ 8 < what) ∧ Venn.setDoV what u a b = 0 ∧ Venn.setDoChk what u a b = 1) ∨
       (Venn.setChk u b = 0 ∧ 5 ≤ what ∧ what ≤ 8 ∧ Venn.setDoV what u a b = Venn.setOf what u a b ∧ Venn.setDoChk what u a b = 0))) := by
  unfold Venn.setDoV Venn.hasV Venn.sizeV Venn.setDoChk Venn.hasChk
  rcases setChk_01 u a with h | h
  · rcases setChk_01 u b with h' | h'
    · by_cases hw : what < 5 ∨ 8 < what <;> by_cases hi : i < 0 ∨ u ≤ i <;> simp [h, h', hw, hi] <;> omega
    · by_cases hi : i < 0 ∨ u ≤ i <;> simp [h, h', hi] <;> omega
  · simp [h]

set_option maxHeartbeats 4000000 in
set_option maxRecDepth 100000 in
theorem setsTell_walk (what u a b i : Int) (w : World) (HET : EtOk w) : Calls Tryd.prog 5 #[.int .i64 what, .int .i64 u, .int .i64 a, .int .i64 b, .int .i64 i] w (Keeps (.bool true) w) := by
  rcases setsTell_cases what u a b i with ⟨h1, h2, h3, h4, h5, h6⟩ | ⟨h1, h2, h3, h5⟩
  · have H := Lib.hid (And.intro h1 (And.intro h2 (And.intro h3 (And.intro h4 (And.intro h5 h6)))))
    clear h1 h2 h3 h4 h5 h6
    go_enter Tryd.func5, Tryd.ntmps5
    go_wp2_with (first
      | (go_at_call 13; refine (ref_Set _ _ _).mono ?_; rintro e w' ⟨rfl, rfl⟩; rw [H.out.1])
      | (go_at_call 15; refine (sets_Check _ _ _).mono ?_; rintro e w' ⟨rfl, rfl⟩; rw [H.out.1])
      | (go_at_call 18; refine (sets_Size _ _ _).mono ?_; rintro e w' ⟨rfl, rfl⟩; rw [H.out.1, H.out.2.1])
      | (go_at_call 19; refine (sets_Has _ _ _ _).mono ?_; rintro e w' ⟨rfl, rfl⟩; rw [H.out.2.2.1, H.out.2.2.2.1])
      | (go_at_call 21; refine (sets_Do _ _ _ _ _).mono ?_; rintro e w1 ⟨rfl, hb1⟩; rw [H.out.2.2.2.2.1, H.out.2.2.2.2.2])
      | (go_at_call 14; refine (vennsame_Error _ _ _ (HET.keep (by (repeat' (first | (with_reducible exact Below.refl _ _) | (with_reducible refine Below.next ?_ (by with_reducible assumption)) | (with_reducible refine Below.drew ?_) | (with_reducible refine Below.laid ?_ _) | (with_reducible refine Below.setCell ?_ ?_ _) | (with_reducible refine size_of ?_) | (with_reducible refine Nat.le_succ_of_le ?_) | go_size))))).mono ?_; rintro e w1 ⟨rfl, hb1⟩))
    go_ret
    exact ⟨rfl, by (repeat' (first | (with_reducible exact Below.refl _ _) | (with_reducible refine Below.next ?_ (by with_reducible assumption)) | (with_reducible refine Below.drew ?_) | (with_reducible refine Below.laid ?_ _) | (with_reducible refine Below.setCell ?_ ?_ _) | (with_reducible refine size_of ?_) | (with_reducible refine Nat.le_succ_of_le ?_) | go_size))⟩
  · have ha := setChk_63 h1
    rcases h3 with ⟨hi, h3, h4⟩ | ⟨hi, hi2, h3, h4⟩
    · rcases hi with hi | hi
      all_goals
        rcases h5 with ⟨g1, h5, h6⟩ | ⟨g1, hw | hw, h5, h6⟩ | ⟨g1, hw, hw2, h5, h6⟩
        all_goals
          have H := Lib.hid (And.intro h1 (And.intro h2 (And.intro h3 (And.intro h4 (And.intro h5 (And.intro h6 g1))))))
          clear h1 h2 h3 h4 h5 h6 g1
          go_enter Tryd.func5, Tryd.ntmps5
          go_wp2_with (first
            | (go_at_call 13; refine (ref_Set _ _ _).mono ?_; rintro e w' ⟨rfl, rfl⟩; (first | rw [H.out.1] | rw [H.out.2.2.2.2.2.2]))
            | (go_at_call 15; refine (sets_Check _ _ _).mono ?_; rintro e w' ⟨rfl, rfl⟩; rw [H.out.1])
            | (go_at_call 16; refine (ref_Size _ _ ha).mono ?_; rintro e w' ⟨rfl, rfl⟩)
            | (go_at_call 18; refine (sets_Size _ _ _).mono ?_; rintro e w' ⟨rfl, rfl⟩; rw [H.out.1, H.out.2.1])
            | (go_at_call 19; refine (sets_Has _ _ _ _).mono ?_; rintro e w' ⟨rfl, rfl⟩; rw [H.out.2.2.1, H.out.2.2.2.1])
            | (go_at_call 20; refine (ref_Do _ _ _ _ _ ⟨by assumption, by assumption⟩ H.out.1 H.out.2.2.2.2.2.2).mono ?_; rintro e w' ⟨rfl, rfl⟩)
            | (go_at_call 21; refine (sets_Do _ _ _ _ _).mono ?_; rintro e w1 ⟨rfl, hb1⟩; rw [H.out.2.2.2.2.1, H.out.2.2.2.2.2.1])
            | (go_at_call 14; refine (vennsame_Error _ _ _ (HET.keep (by (repeat' (first | (with_reducible exact Below.refl _ _) | (with_reducible refine Below.next ?_ (by with_reducible assumption)) | (with_reducible refine Below.drew ?_) | (with_reducible refine Below.laid ?_ _) | (with_reducible refine Below.setCell ?_ ?_ _) | (with_reducible refine size_of ?_) | (with_reducible refine Nat.le_succ_of_le ?_) | go_size))))).mono ?_; rintro e w1 ⟨rfl, hb1⟩))
          all_goals (first | (exfalso; omega) | (go_ret; exact ⟨rfl, by (repeat' (first | (with_reducible exact Below.refl _ _) | (with_reducible refine Below.next ?_ (by with_reducible assumption)) | (with_reducible refine Below.drew ?_) | (with_reducible refine Below.laid ?_ _) | (with_reducible refine Below.setCell ?_ ?_ _) | (with_reducible refine size_of ?_) | (with_reducible refine Nat.le_succ_of_le ?_) | go_size))⟩))
    · have hi6 : i ≤ 5 := by have := Venn.setChk_iff.1 h1; omega
      rcases h5 with ⟨g1, h5, h6⟩ | ⟨g1, hw | hw, h5, h6⟩ | ⟨g1, hw, hw2, h5, h6⟩
      all_goals
        have H := Lib.hid (And.intro h1 (And.intro h2 (And.intro h3 (And.intro h4 (And.intro h5 (And.intro h6 g1))))))
        clear h1 h2 h3 h4 h5 h6 g1
        go_enter Tryd.func5, Tryd.ntmps5
        go_wp2_with (first
          | (go_at_call 13; refine (ref_Set _ _ _).mono ?_; rintro e w' ⟨rfl, rfl⟩; (first | rw [H.out.1] | rw [H.out.2.2.2.2.2.2]))
          | (go_at_call 15; refine (sets_Check _ _ _).mono ?_; rintro e w' ⟨rfl, rfl⟩; rw [H.out.1])
          | (go_at_call 16; refine (ref_Size _ _ ha).mono ?_; rintro e w' ⟨rfl, rfl⟩)
          | (go_at_call 18; refine (sets_Size _ _ _).mono ?_; rintro e w' ⟨rfl, rfl⟩; rw [H.out.1, H.out.2.1])
          | (go_at_call 17; refine (ref_Has _ _ _ ha ⟨hi, hi6⟩).mono ?_; rintro e w' ⟨rfl, rfl⟩)
          | (go_at_call 19; refine (sets_Has _ _ _ _).mono ?_; rintro e w' ⟨rfl, rfl⟩; rw [H.out.2.2.1, H.out.2.2.2.1])
          | (go_at_call 20; refine (ref_Do _ _ _ _ _ ⟨by assumption, by assumption⟩ H.out.1 H.out.2.2.2.2.2.2).mono ?_; rintro e w' ⟨rfl, rfl⟩)
          | (go_at_call 21; refine (sets_Do _ _ _ _ _).mono ?_; rintro e w1 ⟨rfl, hb1⟩; rw [H.out.2.2.2.2.1, H.out.2.2.2.2.2.1])
          | (go_at_call 14; refine (vennsame_Error _ _ _ (HET.keep (by (repeat' (first | (with_reducible exact Below.refl _ _) | (with_reducible refine Below.next ?_ (by with_reducible assumption)) | (with_reducible refine Below.drew ?_) | (with_reducible refine Below.laid ?_ _) | (with_reducible refine Below.setCell ?_ ?_ _) | (with_reducible refine size_of ?_) | (with_reducible refine Nat.le_succ_of_le ?_) | go_size))))).mono ?_; rintro e w1 ⟨rfl, hb1⟩))
        all_goals (first | (exfalso; omega) | (go_ret; exact ⟨rfl, by (repeat' (first | (with_reducible exact Below.refl _ _) | (with_reducible refine Below.next ?_ (by with_reducible assumption)) | (with_reducible refine Below.drew ?_) | (with_reducible refine Below.laid ?_ _) | (with_reducible refine Below.setCell ?_ ?_ _) | (with_reducible refine size_of ?_) | (with_reducible refine Nat.le_succ_of_le ?_) | go_size))⟩))

end Go.Proofs.YteikjcboehilpaaDoor
