/-
  PROVED: vennlaw4.RowsNot answers true, at any atom. No condition beyond the card's own list.
-/
import Derived.Test.YteikjcboehilpaaDoorRowOf
import Derived.Test.YteikjcboehilpaaDoorKindsLaw
import Derived.Test.YteikjcboehilpaaDoorOpenW
namespace Go.Proofs.YteikjcboehilpaaDoor
open Go.ChangeShapes Go.WideShapes Go.ChangeAt Go.RowKit

set_option maxHeartbeats 2000000 in
set_option maxRecDepth 100000 in
theorem rowsNot_walk (what n : Int) (sv tv : Value) (s t : List Int) (w : World) (hs : IsInts w sv s) (ht : IsInts w tv t) (hk : KindsOk w) :
    Calls Tryd.prog 3 #[.agg #[.int .i64 what, sv, tv, .int .i64 n]] w (Keeps (.bool true) w) := by
  obtain ⟨tA, tc, rfl, htr, htl, htc⟩ := ht
  have HTT : IsInts w (.slice tA t.length tc) t := ⟨tA, tc, rfl, htr, htl, htc⟩
  clear htr htl htc
  obtain ⟨sA, sc, rfl, hsr, hsl, hsc⟩ := hs
  have HSS : IsInts w (.slice sA s.length sc) s := ⟨sA, sc, rfl, hsr, hsl, hsc⟩
  clear hsr hsl hsc
  by_cases h1 : Venn.atomChk ⟨what, s, t, n⟩ = 0
  · have hx := Lib.hid (errV_zero h1)
    obtain ⟨x0, hx0⟩ : ∃ x, x = Venn.rowT ⟨what, s, t, n⟩ true 0 := ⟨_, rfl⟩
    obtain ⟨x1, hx1⟩ : ∃ x, x = Venn.rowT ⟨what, s, t, n⟩ true 1 := ⟨_, rfl⟩
    obtain ⟨x2, hx2⟩ : ∃ x, x = Venn.rowT ⟨what, s, t, n⟩ true 2 := ⟨_, rfl⟩
    obtain ⟨x3, hx3⟩ : ∃ x, x = Venn.rowT ⟨what, s, t, n⟩ true 3 := ⟨_, rfl⟩
    obtain ⟨x4, hx4⟩ : ∃ x, x = Venn.rowT ⟨what, s, t, n⟩ true 4 := ⟨_, rfl⟩
    obtain ⟨x5, hx5⟩ : ∃ x, x = Venn.rowT ⟨what, s, t, n⟩ true 5 := ⟨_, rfl⟩
    obtain ⟨x6, hx6⟩ : ∃ x, x = Venn.rowT ⟨what, s, t, n⟩ true 6 := ⟨_, rfl⟩
    obtain ⟨x7, hx7⟩ : ∃ x, x = Venn.rowT ⟨what, s, t, n⟩ true 7 := ⟨_, rfl⟩
    obtain ⟨x8, hx8⟩ : ∃ x, x = Venn.rowM ⟨what, s, t, n⟩ true := ⟨_, rfl⟩
    have HR := Lib.hid (show rowOfV ⟨what, s, t, n⟩ true = .agg #[.int .i64 x0, .int .i64 x1, .int .i64 x2, .int .i64 x3, .int .i64 x4, .int .i64 x5, .int .i64 x6, .int .i64 x7, .int .i64 x8] by rw [rowOfV, if_pos h1, rowV, hx0, hx1, hx2, hx3, hx4, hx5, hx6, hx7, hx8])
    have HS := Lib.hid (show rowOfV ⟨what, s, t, n⟩ false = .agg #[.int .i64 (-x0), .int .i64 (-x1), .int .i64 (-x2), .int .i64 (-x3), .int .i64 (-x4), .int .i64 (-x5), .int .i64 (-x6), .int .i64 (-x7), .int .i64 (-x8 - 1)] by rw [rowOfV, if_pos h1, rowV, hx0, hx1, hx2, hx3, hx4, hx5, hx6, hx7, hx8]; simp [Venn.rowT, Venn.rowM])
    have hM : -20 ≤ x8 ∧ x8 ≤ 20 := by
      obtain ⟨_, _, _, _, _, q20, q20', _⟩ := Venn.atomChk_parts h1
      simp only at q20 q20'
      rw [hx8]
      simp only [Venn.rowM, if_true]
      split <;> omega
    have hw1 : IntKind.i64.wrap (-1) = -1 := by decide
    have hw2 : x8 + (-x8 - 1) = -1 := by omega
    clear hx0 hx1 hx2 hx3 hx4 hx5 hx6 hx7 hx8 h1
    go_enter Tryd.func3, Tryd.ntmps3
    go_wp2_with fail
    refine (rows_Of _ _ _ _ s t true _ (HSS.keep (by (repeat' (first | (with_reducible exact Below.refl _ _) | (with_reducible refine Below.next ?_ (by with_reducible assumption)) | (with_reducible refine Below.drew ?_) | (with_reducible refine Below.laid ?_ _) | (with_reducible refine Below.setCell ?_ ?_ _) | (with_reducible refine size_of ?_) | (with_reducible refine Nat.le_succ_of_le ?_) | go_size)))) (HTT.keep (by (repeat' (first | (with_reducible exact Below.refl _ _) | (with_reducible refine Below.next ?_ (by with_reducible assumption)) | (with_reducible refine Below.drew ?_) | (with_reducible refine Below.laid ?_ _) | (with_reducible refine Below.setCell ?_ ?_ _) | (with_reducible refine size_of ?_) | (with_reducible refine Nat.le_succ_of_le ?_) | go_size)))) (hk.keep (by (repeat' (first | (with_reducible exact Below.refl _ _) | (with_reducible refine Below.next ?_ (by with_reducible assumption)) | (with_reducible refine Below.drew ?_) | (with_reducible refine Below.laid ?_ _) | (with_reducible refine Below.setCell ?_ ?_ _) | (with_reducible refine size_of ?_) | (with_reducible refine Nat.le_succ_of_le ?_) | go_size))))).mono ?_
    rintro e w1 ⟨rfl, hb1⟩
    rw [hx.out, HR.out]
    have BA := (Blk.new w _ _).keep hb1
    obtain ⟨a0, a1, a2, a3⟩ := BA.cells4
    have hlA := BA.lt
    go_wp2_with fail
    refine (rows_Of _ _ _ _ s t false _ (HSS.keep (by (repeat' (first | (with_reducible exact Below.refl _ _) | (with_reducible refine Below.next ?_ (by with_reducible assumption)) | (with_reducible refine Below.drew ?_) | (with_reducible refine Below.laid ?_ _) | (with_reducible refine Below.setCell ?_ ?_ _) | (with_reducible refine size_of ?_) | (with_reducible refine Nat.le_succ_of_le ?_) | go_size)))) (HTT.keep (by (repeat' (first | (with_reducible exact Below.refl _ _) | (with_reducible refine Below.next ?_ (by with_reducible assumption)) | (with_reducible refine Below.drew ?_) | (with_reducible refine Below.laid ?_ _) | (with_reducible refine Below.setCell ?_ ?_ _) | (with_reducible refine size_of ?_) | (with_reducible refine Nat.le_succ_of_le ?_) | go_size)))) (hk.keep (by (repeat' (first | (with_reducible exact Below.refl _ _) | (with_reducible refine Below.next ?_ (by with_reducible assumption)) | (with_reducible refine Below.drew ?_) | (with_reducible refine Below.laid ?_ _) | (with_reducible refine Below.setCell ?_ ?_ _) | (with_reducible refine size_of ?_) | (with_reducible refine Nat.le_succ_of_le ?_) | go_size))))).mono ?_
    rintro e w2 ⟨rfl, hb2⟩
    rw [hx.out, HS.out]
    have BX := (Blk.new w1 27 #[.int .i64 x0, .int .i64 x1, .int .i64 x2, .int .i64 x3, .int .i64 x4, .int .i64 x5, .int .i64 x6, .int .i64 x7, .int .i64 x8]).keep hb2
    have hlX := BX.lt
    have BY := Blk.new w2 27 #[.int .i64 (-x0), .int .i64 (-x1), .int .i64 (-x2), .int .i64 (-x3), .int .i64 (-x4), .int .i64 (-x5), .int .i64 (-x6), .int .i64 (-x7), .int .i64 (-x8 - 1)]
    obtain ⟨⟨c0, c1, c2, c3, c4, c5, c6, c7, c8⟩, _⟩ := (BX.alloc (.cells #[.int .i64 (-x0), .int .i64 (-x1), .int .i64 (-x2), .int .i64 (-x3), .int .i64 (-x4), .int .i64 (-x5), .int .i64 (-x6), .int .i64 (-x7), .int .i64 (-x8 - 1)] 27)).cells9
    obtain ⟨⟨d0, d1, d2, d3, d4, d5, d6, d7, d8⟩, _⟩ := BY.cells9
    clear BA BX BY
    go_wp2
    refine wp_loop_rounds 9 ?_
    rw [rounds_succ]
    go_wp2_with fail
    go_quiet (fail)
    go_wp2
    rw [rounds_succ]
    go_wp2_with fail
    go_quiet (fail)
    go_wp2
    rw [rounds_succ]
    go_wp2_with fail
    go_quiet (fail)
    go_wp2
    rw [rounds_succ]
    go_wp2_with fail
    go_quiet (fail)
    go_wp2
    rw [rounds_succ]
    go_wp2_with fail
    go_quiet (fail)
    go_wp2
    rw [rounds_succ]
    go_wp2_with fail
    go_quiet (fail)
    go_wp2
    rw [rounds_succ]
    go_wp2_with fail
    go_quiet (fail)
    go_wp2
    rw [rounds_succ]
    go_wp2_with fail
    go_quiet (fail)
    go_wp2
    rw [rounds_succ]
    go_wp2
    go_ret
    exact ⟨rfl, below_drewN (by (repeat' (first | (with_reducible exact Below.refl _ _) | (with_reducible refine Below.next ?_ (by with_reducible assumption)) | (with_reducible refine Below.drew ?_) | (with_reducible refine Below.laid ?_ _) | (with_reducible refine Below.setCell ?_ ?_ _) | (with_reducible refine size_of ?_) | (with_reducible refine Nat.le_succ_of_le ?_) | go_size))) _⟩
  · have hx := Lib.hid (errV_ne h1)
    have HZ := Lib.hid (show ∀ b, rowOfV ⟨what, s, t, n⟩ b = rowZ from fun b => by rw [rowOfV, if_neg h1])
    clear h1
    go_enter Tryd.func3, Tryd.ntmps3
    go_wp2_with fail
    refine (rows_Of _ _ _ _ s t true _ (HSS.keep (by (repeat' (first | (with_reducible exact Below.refl _ _) | (with_reducible refine Below.next ?_ (by with_reducible assumption)) | (with_reducible refine Below.drew ?_) | (with_reducible refine Below.laid ?_ _) | (with_reducible refine Below.setCell ?_ ?_ _) | (with_reducible refine size_of ?_) | (with_reducible refine Nat.le_succ_of_le ?_) | go_size)))) (HTT.keep (by (repeat' (first | (with_reducible exact Below.refl _ _) | (with_reducible refine Below.next ?_ (by with_reducible assumption)) | (with_reducible refine Below.drew ?_) | (with_reducible refine Below.laid ?_ _) | (with_reducible refine Below.setCell ?_ ?_ _) | (with_reducible refine size_of ?_) | (with_reducible refine Nat.le_succ_of_le ?_) | go_size)))) (hk.keep (by (repeat' (first | (with_reducible exact Below.refl _ _) | (with_reducible refine Below.next ?_ (by with_reducible assumption)) | (with_reducible refine Below.drew ?_) | (with_reducible refine Below.laid ?_ _) | (with_reducible refine Below.setCell ?_ ?_ _) | (with_reducible refine size_of ?_) | (with_reducible refine Nat.le_succ_of_le ?_) | go_size))))).mono ?_
    rintro e w1 ⟨rfl, hb1⟩
    rw [hx.out, HZ.out]
    have BA := (Blk.new w _ _).keep hb1
    obtain ⟨a0, a1, a2, a3⟩ := BA.cells4
    have hlA := BA.lt
    unfold rowZ
    go_wp2_with fail
    refine (rows_Of _ _ _ _ s t false _ (HSS.keep (by (repeat' (first | (with_reducible exact Below.refl _ _) | (with_reducible refine Below.next ?_ (by with_reducible assumption)) | (with_reducible refine Below.drew ?_) | (with_reducible refine Below.laid ?_ _) | (with_reducible refine Below.setCell ?_ ?_ _) | (with_reducible refine size_of ?_) | (with_reducible refine Nat.le_succ_of_le ?_) | go_size)))) (HTT.keep (by (repeat' (first | (with_reducible exact Below.refl _ _) | (with_reducible refine Below.next ?_ (by with_reducible assumption)) | (with_reducible refine Below.drew ?_) | (with_reducible refine Below.laid ?_ _) | (with_reducible refine Below.setCell ?_ ?_ _) | (with_reducible refine size_of ?_) | (with_reducible refine Nat.le_succ_of_le ?_) | go_size)))) (hk.keep (by (repeat' (first | (with_reducible exact Below.refl _ _) | (with_reducible refine Below.next ?_ (by with_reducible assumption)) | (with_reducible refine Below.drew ?_) | (with_reducible refine Below.laid ?_ _) | (with_reducible refine Below.setCell ?_ ?_ _) | (with_reducible refine size_of ?_) | (with_reducible refine Nat.le_succ_of_le ?_) | go_size))))).mono ?_
    rintro e w2 ⟨rfl, hb2⟩
    rw [hx.out, HZ.out]
    have BA2 := (BA.alloc (.cells zero9 27)).keep hb2
    obtain ⟨b0, b1, b2, b3⟩ := BA2.cells4
    have hlA2 := BA2.lt
    unfold rowZ
    go_wp2_with fail
    refine (atom_Check _ _ _ _ s t _ (HSS.keep (by (repeat' (first | (with_reducible exact Below.refl _ _) | (with_reducible refine Below.next ?_ (by with_reducible assumption)) | (with_reducible refine Below.drew ?_) | (with_reducible refine Below.laid ?_ _) | (with_reducible refine Below.setCell ?_ ?_ _) | (with_reducible refine size_of ?_) | (with_reducible refine Nat.le_succ_of_le ?_) | go_size)))) (HTT.keep (by (repeat' (first | (with_reducible exact Below.refl _ _) | (with_reducible refine Below.next ?_ (by with_reducible assumption)) | (with_reducible refine Below.drew ?_) | (with_reducible refine Below.laid ?_ _) | (with_reducible refine Below.setCell ?_ ?_ _) | (with_reducible refine size_of ?_) | (with_reducible refine Nat.le_succ_of_le ?_) | go_size)))) (hk.keep (by (repeat' (first | (with_reducible exact Below.refl _ _) | (with_reducible refine Below.next ?_ (by with_reducible assumption)) | (with_reducible refine Below.drew ?_) | (with_reducible refine Below.laid ?_ _) | (with_reducible refine Below.setCell ?_ ?_ _) | (with_reducible refine size_of ?_) | (with_reducible refine Nat.le_succ_of_le ?_) | go_size))))).mono ?_
    rintro e w3 ⟨rfl, hb3⟩
    rw [hx.out]
    go_wp2
    go_ret
    exact ⟨rfl, by (repeat' (first | (with_reducible exact Below.refl _ _) | (with_reducible refine Below.next ?_ (by with_reducible assumption)) | (with_reducible refine Below.drew ?_) | (with_reducible refine Below.laid ?_ _) | (with_reducible refine Below.setCell ?_ ?_ _) | (with_reducible refine size_of ?_) | (with_reducible refine Nat.le_succ_of_le ?_) | go_size))⟩

set_option maxRecDepth 100000 in
theorem rowsNot_contract (H : Type) (enc : TypeId × Value → H) (W : World) (base : Nat) (args : Array Value) (ds gs : List (DataW H)) (before : List MemPlace)
    (hval : ∀ (j : Nat) t v, Tryd.f3.params[j]? = some t → args[j]? = some v → Value.okWide Tryd.prog W .any base t v)
    (hW : DataW.Whole enc Tryd.prog Tryd.f3.params.toList Rows.rowsNotSpec.vars false W args.toList ds gs before) (hL : laidMetH Tryd.prog Rows.rowsNotRow.laid W)
    : Calls Tryd.prog 3 args W fun e W' => ∃ v, e = .returned v ∧ Rows.rowsNotSpec.post enc Tryd.prog Tryd.f3 false true false false W args v W' := by
  have hW' := hW
  obtain ⟨p, q, hA0, hV, rfl, hfz, hnd⟩ := hW
  have hA : DataW.TrodAll enc Tryd.prog W 0 (fun _ => true) true Tryd.f3.params.toList args.toList ds p := hA0
  rw [Tryd.params3] at hA hval
  obtain ⟨v0, vs0, d0, ds0, p0, q0, hargs, rfl, rfl, h0, r0⟩ := trodAll_cons hA
  obtain ⟨rfl, rfl, rfl⟩ := trodAll_nil r0
  obtain rfl : args = #[v0] := by cases args; simp_all
  obtain ⟨rfl, rfl⟩ := trodVars_none hV
  have HKI : KindsOk W := kinds_of_laid hL (by repeat (first | exact List.Mem.head _ | apply List.Mem.tail))
  obtain ⟨xw, xn, xs, xt, xsv, xtv, rfl, xhs, xht, xww, xwn⟩ := open_atom (hval 0 24 v0 rfl rfl) h0
  clear hA0
  refine (rowsNot_walk xw xn xsv xtv xs xt W xhs xht HKI).mono fun e W' ⟨he, hw⟩ => ?_
  subst he
  exact ⟨_, rfl, law_post laidOut Tryd.underlying4 (by kernel_rfl) rfl (by kernel_rfl) hW' rfl hw⟩

theorem rowsNot_met (os : Os) : laidMetH Tryd.prog Rows.rowsNotRow.laid ((World.doorLaid Tryd.prog 400 os).forCall (fun _ _ => 0) ⟨#[], #[.agg #[.int .i64 0, .slice none 0 0, .slice none 0 0, .int .i64 0]], []⟩).memory :=
  laidMetH_of_parts3 (fuel := 8) (laidMet_of_run' 8 (by kernel_rfl) (by kernel_rfl)) (by kernel_rfl) (by kernel_rfl)

set_option maxRecDepth 100000 in
theorem rowsNot_lifted (os : Os) (started : os.Started) (H : Type) (enc : TypeId × Value → H) (F : Stop.Interp) :
    ReturnsInHanded {} Tryd.checked os 3 .any ((OpenSpec.ofChange Rows.rowsNotSpec).preRow enc Tryd.prog Tryd.f3 Rows.rowsNotRow.domain false Rows.rowsNotRow.laid) (((OpenSpec.ofChange Rows.rowsNotSpec).at F).post enc Tryd.prog Tryd.f3 false true false false) := by
  refine returnsInHanded_of_row (C := Tryd.checked) (s := (OpenSpec.ofChange Rows.rowsNotSpec)) own started (by kernel_rfl) Tryd.func3
    (witness_row_at (enc := enc) (C := Tryd.checked) false (World.doorLaid Tryd.prog 400 os) #[.agg #[.int .i64 0, .slice none 0 0, .slice none 0 0, .int .i64 0]] rfl (by kernel_rfl) (by kernel_rfl) (by kernel_rfl)
      (OpenSpec.preRow_of_cond 8 (x := ([.agg [.lit (.int .i64 0), .nil, .nil, .lit (.int .i64 0)]], [], [])) (by kernel_rfl) (by kernel_rfl) (fun k hk => by cases hk) (by kernel_rfl) (rowsNot_met os))) ?_
  intro W base args ds gs before hval hW _ HKU _ hL _ _
  exact rowsNot_contract H enc W base args ds gs before hval hW hL

theorem rowsNot_said : Rows.RowsNotSaid :=
  OpenClaim.holds_of_cond 3 Tryd.f3 rfl rfl rfl rfl rfl rfl rfl ⟨rfl, rfl, rfl, rfl, rfl⟩ rfl rfl rfl rfl rfl (by kernel_rfl) Tryd.func3 (by kernel_rfl)
    (of_decide_eq_true (by kernel_rfl)) (by unfold Func.isWrapper; first | (rw [if_pos (by decide +kernel)]; kernel_rfl) | (rw [if_neg (by decide +kernel)]; exact ⟨rfl, rfl⟩))
    (fun os started H enc _ F => by rw [OpenClaim.pre_eq_preRow]; exact rowsNot_lifted os started H enc F)

theorem rowsNot_plain (f : FuncId) (fn : Func) (hf : Tryd.pinned.checked.prog.funcNamed "vennhouse/vennlaw4.RowsNot" = some f) (hfn : Tryd.pinned.checked.prog.funcs[f]? = some fn) :
    true = Tryd.pinned.checked.prog.looks [] ∧ ∀ (j : Nat) t, fn.params[j]? = some t → Tryd.pinned.checked.prog.wantsStandIn t = false := by
  obtain rfl : f = 3 := Option.some.inj ((show Tryd.prog.funcNamed "vennhouse/vennlaw4.RowsNot" = some 3 by kernel_rfl).symm.trans hf) |>.symm
  obtain rfl : fn = Tryd.f3 := (Option.some.inj (Tryd.func3.symm.trans hfn)).symm
  refine ⟨by kernel_rfl, fun j t ht => ?_⟩
  rw [Tryd.params3] at ht
  have ht' := Array.mem_of_getElem? ht
  have hall : ∀ t ∈ (#[24] : Array TypeId), Tryd.prog.wantsStandIn t = false := fun t ht => by
    simp only [List.mem_toArray, List.mem_cons, List.not_mem_nil, or_false] at ht
    rcases ht with rfl
    all_goals kernel_rfl
  exact hall t ht'

theorem rowsNot_holds : Rows.RowsNotCardSaid :=
  Claim7.holds_tied_plain_at .later [] _ _ _ _ rowsNot_said (fun _ h => by cases h) (by kernel_rfl) (fun _ h => by cases h) rowsNot_row_tie rfl ⟨rfl, rfl⟩ (by kernel_rfl) rfl rowsNot_plain (by kernel_rfl)
#print axioms rowsNot_holds
end Go.Proofs.YteikjcboehilpaaDoor
