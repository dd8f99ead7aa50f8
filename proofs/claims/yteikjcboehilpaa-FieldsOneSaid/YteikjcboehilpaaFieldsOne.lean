/-
  PROVED: vennlaw4.FieldsOne answers true, at any integer. No condition.
-/
import Derived.Test.YteikjcboehilpaaWhere
import Derived.Test.YteikjcboehilpaaLaw
namespace Go.Proofs.Yteikjcboehilpaa
open Go.ChangeShapes Go.WideShapes Go.ChangeAt Go.RowKit

set_option maxHeartbeats 2000000 in
set_option maxRecDepth 100000 in
theorem fieldsOne_in (name c : Int) (hn : name = 0 ∨ name = 1 ∨ name = 2) (h1 : Venn.termChk [name] = 0) (h2 : Venn.mask [name] = c) (hc : c = 170 ∨ c = 204 ∨ c = 240) (w : World) : Calls Try.prog 5 #[.int .i64 name] w (Keeps (.bool true) w) := by
  have H1 := Lib.hid h1; have H2 := Lib.hid h2
  have hlo : ¬ name < 0 := by omega
  have hhi : ¬ 2 < name := by omega
  clear h1 h2 hn
  go_enter Try.func5, Try.ntmps5
  go_wp2_with fail
  refine (mask_lit 4 255 (by decide +kernel) (by decide +kernel) _ _).mono ?_
  rintro e w1 ⟨rfl, hb1⟩
  go_wp2_with fail
  refine (mask_lit 3 0 (by decide +kernel) (by decide +kernel) _ _).mono ?_
  rintro e w2 ⟨rfl, hb2⟩
  go_wp2_with fail
  refine (mask_lit 0 170 (by decide +kernel) (by decide +kernel) _ _).mono ?_
  rintro e w3 ⟨rfl, hb3⟩
  go_wp2_with fail
  refine (mask_lit name c H1.out H2.out _ _).mono ?_
  rintro e w4 ⟨rfl, hb4⟩
  rcases hc with rfl | rfl | rfl
  all_goals
    go_wp2
    refine wp_loop_rounds 9 ?_
    repeat (rw [rounds_succ]; go_wp2)
    go_ret
    exact ⟨rfl, by (repeat' (first | (with_reducible exact Below.refl _ _) | (with_reducible refine Below.next ?_ (by with_reducible assumption)) | (with_reducible refine Below.drew ?_) | (with_reducible refine Below.laid ?_ _) | (with_reducible refine Below.setCell ?_ ?_ _) | (with_reducible refine size_of ?_) | (with_reducible refine Nat.le_succ_of_le ?_) | go_size))⟩

set_option maxHeartbeats 2000000 in
set_option maxRecDepth 100000 in
theorem fieldsOne_out (name : Int) (hn : name < 0 ∨ 2 < name) (w : World) : Calls Try.prog 5 #[.int .i64 name] w (Keeps (.bool true) w) := by
  have HN := Lib.hid hn
  clear hn
  go_enter Try.func5, Try.ntmps5
  go_wp2_with fail
  refine (mask_lit 4 255 (by decide +kernel) (by decide +kernel) _ _).mono ?_
  rintro e w1 ⟨rfl, hb1⟩
  go_wp2_with fail
  refine (mask_lit 3 0 (by decide +kernel) (by decide +kernel) _ _).mono ?_
  rintro e w2 ⟨rfl, hb2⟩
  go_wp2_with fail
  refine (mask_lit 0 170 (by decide +kernel) (by decide +kernel) _ _).mono ?_
  rintro e w3 ⟨rfl, hb3⟩
  go_wp2_with fail
  refine (fields_Mask _ [name] _ (IsInts.one _ _ _)).mono ?_
  rintro e w4 ⟨rfl, hb4⟩
  generalize (if Venn.termChk [name] = 0 then Venn.mask [name] else 0) = m
  generalize errV (Venn.termChk [name]) = er
  rcases HN.out with hn | hn
  all_goals
    go_wp2
    go_ret
    exact ⟨rfl, by (repeat' (first | (with_reducible exact Below.refl _ _) | (with_reducible refine Below.next ?_ (by with_reducible assumption)) | (with_reducible refine Below.drew ?_) | (with_reducible refine Below.laid ?_ _) | (with_reducible refine Below.setCell ?_ ?_ _) | (with_reducible refine size_of ?_) | (with_reducible refine Nat.le_succ_of_le ?_) | go_size))⟩

theorem fieldsOne_walk (name : Int) (w : World) : Calls Try.prog 5 #[.int .i64 name] w (Keeps (.bool true) w) := by
  by_cases h : 0 ≤ name ∧ name ≤ 2
  · rcases (by omega : name = 0 ∨ name = 1 ∨ name = 2) with rfl | rfl | rfl
    · exact fieldsOne_in 0 170 (by decide) (by decide +kernel) (by decide +kernel) (by decide) w
    · exact fieldsOne_in 1 204 (by decide) (by decide +kernel) (by decide +kernel) (by decide) w
    · exact fieldsOne_in 2 240 (by decide) (by decide +kernel) (by decide +kernel) (by decide) w
  · exact fieldsOne_out name (by omega) w

set_option maxRecDepth 100000 in
theorem fieldsOne_lifted (os : Os) (started : os.Started) (H : Type) (enc : TypeId × Value → H) :
    ReturnsInHanded {} Try.checked os 5 .any (Rows.fieldsOneSpec.pre6 enc Try.prog Try.f5 Rows.fieldsOneRow.domain false) (Rows.fieldsOneSpec.post enc Try.prog Try.f5 false true false false) := by
  refine returnsInHanded_of_change (C := Try.checked) own started (by kernel_rfl) Try.func5
    (ChangeSpec.witness6 (enc := enc) (C := Try.checked) false ⟨#[], #[.int .i64 0], []⟩ 8 (by kernel_rfl) (by kernel_rfl) (by kernel_rfl) (by kernel_rfl)) ?_
  intro W base args ds gs before hval0 hW _ _
  have hval : ∀ (j : Nat) t v, Try.f5.params[j]? = some t → args[j]? = some v → Value.okWide Try.prog W .any base t v := hval0
  have hW' := hW
  obtain ⟨p, q, hA0, hV, rfl, hfz, hnd⟩ := hW
  have hA : DataW.TrodAll enc Try.prog W 0 (fun _ => true) true Try.f5.params.toList args.toList ds p := hA0
  rw [Try.params5] at hA hval
  obtain ⟨v0, vs0, d0, ds0, p0, q0, hargs, rfl, rfl, h0, r0⟩ := trodAll_cons hA
  obtain ⟨rfl, rfl, rfl⟩ := trodAll_nil r0
  obtain rfl : args = #[v0] := by cases args; simp_all
  obtain ⟨rfl, rfl⟩ := trodVars_none hV
  obtain ⟨name, rfl, rfl, rfl, wname⟩ := open_int Try.underlying3 (hval 0 3 v0 rfl rfl) h0
  clear hA0 hval0
  refine (fieldsOne_walk name W).mono fun e W' ⟨he, hw⟩ => ?_
  subst he
  exact ⟨_, rfl, law_post laidOut Try.underlying4 (by kernel_rfl) rfl (by kernel_rfl) hW' rfl hw⟩

theorem fieldsOne_holds : Rows.FieldsOneSaid :=
  OpenClaim.holds_of_wide 5 Try.f5 rfl rfl rfl rfl rfl rfl rfl ⟨rfl, rfl, rfl, rfl, rfl⟩ rfl rfl rfl rfl rfl (by kernel_rfl) Try.func5 (by kernel_rfl)
    (of_decide_eq_true (by kernel_rfl)) (by unfold Func.isWrapper; first | (rw [if_pos (by decide +kernel)]; kernel_rfl) | (rw [if_neg (by decide +kernel)]; exact ⟨rfl, rfl⟩))
    (fun os started H enc _ => fieldsOne_lifted os started H enc)
#print axioms fieldsOne_holds
end Go.Proofs.Yteikjcboehilpaa
