/-
  PROVED: vennlaw1.SetsTurn answers true, at any three integers. No condition.
-/
import Derived.Test.YteikjcboehilpaaSets
import Derived.Test.YteikjcboehilpaaLaw
import Derived.Test.YteikjcboehilpaaVennTurn
namespace Go.Proofs.Yteikjcboehilpaa
open Go.ChangeShapes Go.WideShapes Go.ChangeAt Go.RowKit

set_option maxHeartbeats 2000000 in
set_option maxRecDepth 100000 in
theorem setsTurn_walk (u a b : Int) (w : World) : Calls Try.prog 4 #[.int .i64 u, .int .i64 a, .int .i64 b] w (Keeps (.bool true) w) := by
  have k1 : Venn.setChk 3 6 = 0 := by decide +kernel
  have k2 : Venn.setChk 3 2 = 0 := by decide +kernel
  have k3 : Hid (Venn.setOf 7 3 6 2 = 4) := by unfold Hid; decide +kernel
  have k1 := Lib.hid k1; have k2 := Lib.hid k2
  by_cases h : Venn.setDoChk 5 u a b = 0
  · have ha : Venn.setChk u a = 0 := by
      rcases setDo_cases 5 u a b with h' | h' | h' | h' <;> omega
    have hb : Venn.setChk u b = 0 := by
      rcases setDo_cases 5 u a b with h' | h' | h' | h' <;> omega
    obtain ⟨t1, t2, t3, t4⟩ := Venn.turn_plain' ha hb
    have T1 : (Venn.setOf 8 u (Venn.setOf 6 u a b) a != Venn.setOf 5 u (Venn.setOf 8 u a b) (Venn.setOf 8 u b a)) = false := by rw [t1]; simp
    have T2 : (Venn.setOf 5 u (Venn.setOf 7 u a b) (Venn.setOf 6 u a b) != a) = false := by rw [t2]; simp
    have T3 : (Venn.setOf 8 u (Venn.setOf 8 u a b) a != a) = false := by rw [t3]; simp
    have m1 := Venn.many_le (Venn.setOf 5 u a b)
    have m2 := Venn.many_le (Venn.setOf 6 u a b)
    have m3 := Venn.many_le a
    have m4 := Venn.many_le b
    have t4 := Lib.hid t4
    have hA := Lib.hid ha
    have hB := Lib.hid hb
    clear h ha hb t1 t2 t3
    go_enter Try.func4, Try.ntmps4
    go_wp2_with (first
      | (go_at_call 9; refine (sets_Do_ok _ _ _ _ _ (by repeat first | exact hA.out | exact hB.out | exact k1.out | exact k2.out | apply Venn.setOf_right) (by repeat first | exact hA.out | exact hB.out | exact k1.out | exact k2.out | apply Venn.setOf_right) (by decide) (by decide)).mono ?_; rintro e w1 ⟨rfl, hb1⟩; try rw [k3.out])
      | (go_at_call 10; refine (sets_Size_ok _ _ _ (by repeat first | exact hA.out | exact hB.out | apply Venn.setOf_right)).mono ?_; rintro e w' ⟨rfl, rfl⟩))
    go_ret
    exact ⟨rfl, by (repeat' (first | (with_reducible exact Below.refl _ _) | (with_reducible refine Below.next ?_ (by with_reducible assumption)) | (with_reducible refine Below.drew ?_) | (with_reducible refine Below.alloc ?_ ?_ _) | (with_reducible refine Below.setCell ?_ ?_ _) | go_size))⟩
  · have h1 : Venn.setDoChk 5 u a b = 1 := by
      rcases setDo_cases 5 u a b with h' | h' | h' | h' <;> omega
    have hx := Lib.hid (show errV (Venn.setDoChk 5 u a b) = .iface 23 (.int .i64 1) by rw [h1]; rfl)
    clear h h1
    go_enter Try.func4, Try.ntmps4
    go_wp2_with fail
    refine (sets_Do_ok _ _ _ _ _ k1.out k2.out (by decide) (by decide)).mono ?_
    rintro e w1 ⟨rfl, hb1⟩
    rw [k3.out]
    go_wp2_with fail
    refine (sets_Do _ _ _ _ _).mono ?_
    rintro e w2 ⟨rfl, hb2⟩
    rw [hx.out]
    go_wp2
    go_ret
    exact ⟨rfl, by (repeat' (first | (with_reducible exact Below.refl _ _) | (with_reducible refine Below.next ?_ (by with_reducible assumption)) | (with_reducible refine Below.drew ?_) | (with_reducible refine Below.alloc ?_ ?_ _) | (with_reducible refine Below.setCell ?_ ?_ _) | go_size))⟩

set_option maxRecDepth 100000 in
theorem setsTurn_lifted (os : Os) (started : os.Started) (H : Type) (enc : TypeId × Value → H) :
    ReturnsInHanded {} Try.checked os 4 .any (Rows.setsTurnSpec.pre6 enc Try.prog Try.f4 Rows.setsTurnRow.domain false) (Rows.setsTurnSpec.post enc Try.prog Try.f4 false true false false) := by
  refine returnsInHanded_of_change (C := Try.checked) own started (by kernel_rfl) Try.func4
    (ChangeSpec.witness6 (enc := enc) (C := Try.checked) false ⟨#[], #[.int .i64 0, .int .i64 0, .int .i64 0], []⟩ 8 (by kernel_rfl) (by kernel_rfl) (by kernel_rfl) (by kernel_rfl)) ?_
  intro W base args ds gs before hval0 hW _ _
  have hval : ∀ (j : Nat) t v, Try.f4.params[j]? = some t → args[j]? = some v → Value.okWide Try.prog W .any base t v := hval0
  have hW' := hW
  obtain ⟨p, q, hA0, hV, rfl, hfz, hnd⟩ := hW
  have hA : DataW.TrodAll enc Try.prog W 0 (fun _ => true) true Try.f4.params.toList args.toList ds p := hA0
  rw [Try.params4] at hA hval
  obtain ⟨v0, vs0, d0, ds0, p0, q0, hargs, rfl, rfl, h0, r0⟩ := trodAll_cons hA
  obtain ⟨v1, vs1, d1, ds1, p1, q1, rfl, rfl, rfl, h1, r1⟩ := trodAll_cons r0
  obtain ⟨v2, vs2, d2, ds2, p2, q2, rfl, rfl, rfl, h2, r2⟩ := trodAll_cons r1
  obtain ⟨rfl, rfl, rfl⟩ := trodAll_nil r2
  obtain rfl : args = #[v0, v1, v2] := by cases args; simp_all
  obtain ⟨rfl, rfl⟩ := trodVars_none hV
  obtain ⟨u, rfl, rfl, rfl, wu⟩ := open_int Try.underlying3 (hval 0 3 v0 rfl rfl) h0
  obtain ⟨a, rfl, rfl, rfl, wa⟩ := open_int Try.underlying3 (hval 1 3 v1 rfl rfl) h1
  obtain ⟨b, rfl, rfl, rfl, wb⟩ := open_int Try.underlying3 (hval 2 3 v2 rfl rfl) h2
  clear hA0 hval0
  refine (setsTurn_walk u a b W).mono fun e W' ⟨he, hw⟩ => ?_
  subst he
  exact ⟨_, rfl, law_post laidOut Try.underlying4 (by kernel_rfl) rfl (by kernel_rfl) hW' rfl hw⟩

theorem setsTurn_holds : Rows.SetsTurnSaid :=
  OpenClaim.holds_of_wide 4 Try.f4 rfl rfl rfl rfl rfl rfl rfl ⟨rfl, rfl, rfl, rfl, rfl⟩ rfl rfl rfl rfl rfl (by kernel_rfl) Try.func4 (by kernel_rfl)
    (of_decide_eq_true (by kernel_rfl)) (by unfold Func.isWrapper; first | (rw [if_pos (by decide +kernel)]; kernel_rfl) | (rw [if_neg (by decide +kernel)]; exact ⟨rfl, rfl⟩))
    (fun os started H enc _ => setsTurn_lifted os started H enc)
#print axioms setsTurn_holds
end Go.Proofs.Yteikjcboehilpaa
