/-
  PROVED: vennlaw4.SomeName answers true, at any name, number and world. No condition beyond the card's own list.
-/
import Derived.Test.YteikjcboehilpaaDoorSome
import Derived.Test.YteikjcboehilpaaDoorKindsLaw
import Derived.Test.YteikjcboehilpaaDoorOpenW
import Derived.Deep.RegionLaw
namespace Go.Proofs.YteikjcboehilpaaDoor
open Go.ChangeShapes Go.WideShapes Go.ChangeAt Go.RowKit

/-- The formula that says that a name has n or more. -/
abbrev oneAtom (name n : Int) : List Venn.Atom := [⟨3, [name], [], n⟩]
theorem many_small : ∀ (U : Fin 7), Venn.many (((2 ^ U.val - 1 : Nat)) : Int) = ((U.val : Nat) : Int) ∧ ∀ S : Fin 64, S.val < 2 ^ U.val → Venn.many ((S.val : Nat) : Int) ≤ ((U.val : Nat) : Int) := by decide +kernel
theorem one_true (name n : Int) (hn : Venn.nameOk name = true) (W : Venn.World) (s : Int) : Venn.formTrue ⟨oneAtom name n, [0]⟩ (W.put name s) = decide (n ≤ Venn.many s) := by
  simp only [Venn.nameOk, Bool.and_eq_true, decide_eq_true_eq] at hn
  rcases (by omega : name = 0 ∨ name = 1 ∨ name = 2) with rfl | rfl | rfl
  all_goals rfl
theorem one_chk (name : Int) (hn : Venn.nameOk name = true) : Venn.formChk ⟨oneAtom name 0, [0]⟩ = 0 := by
  simp only [Venn.nameOk, Bool.and_eq_true, decide_eq_true_eq] at hn
  rcases (by omega : name = 0 ∨ name = 1 ∨ name = 2) with rfl | rfl | rfl
  all_goals decide
theorem one_is (name n : Int) (hn : Venn.nameOk name = true) (W : Venn.World) (hw : Venn.worldChk W = 0) : decide (0 ≤ Venn.firstSet ⟨oneAtom name n, [0]⟩ name W true) = decide (n ≤ W.things) := by
  obtain ⟨h0, h6⟩ : 0 ≤ W.things ∧ W.things ≤ 6 := by have := (Venn.worldChk_iff.1 hw).1; simpa [Venn.things] using this
  obtain ⟨hm1, hm2⟩ := many_small ⟨W.things.toNat, by omega⟩
  have hp := Nat.two_pow_pos W.things.toNat
  have hp6 : 2 ^ W.things.toNat ≤ 2 ^ 6 := Nat.pow_le_pow_right (by decide) (by omega)
  have hT : ((W.things.toNat : Nat) : Int) = W.things := by omega
  simp only [hT] at hm1 hm2
  unfold Venn.firstSet
  rcases Venn.firstFrom_range (fun s => Venn.formTrue ⟨oneAtom name n, [0]⟩ (W.put name (s : Int)) == true) (2 ^ W.things.toNat) 0 with ⟨e, h⟩ | ⟨j, e, _, hj, hpj⟩
  · rw [e]
    have h1 := h (2 ^ W.things.toNat - 1) (by omega) (by omega)
    simp only [one_true name n hn, beq_true, decide_eq_false_iff_not] at h1
    rw [hm1] at h1
    rw [decide_eq_false (by omega), decide_eq_false h1]
  · rw [e]
    simp only [one_true name n hn, beq_true, decide_eq_true_eq] at hpj
    have := hm2 ⟨j, by omega⟩ (by simpa using hj)
    simp only at this
    rw [decide_eq_true (by omega), decide_eq_true (by omega)]
theorem one_each (name : Int) (hn : Venn.nameOk name = true) (W : Venn.World) : decide (Venn.firstSet ⟨oneAtom name 0, [0]⟩ name W false < 0) = true := by
  unfold Venn.firstSet
  rcases Venn.firstFrom_range (fun s => Venn.formTrue ⟨oneAtom name 0, [0]⟩ (W.put name (s : Int)) == false) (2 ^ W.things.toNat) 0 with ⟨e, _⟩ | ⟨j, e, _, _, hpj⟩
  · rw [e]; decide
  · simp only [one_true name 0 hn, beq_false, Bool.not_eq_true', decide_eq_false_iff_not] at hpj
    exact absurd (by unfold Venn.many; omega) hpj

set_option maxHeartbeats 4000000 in
set_option maxRecDepth 100000 in
theorem someName_walk (name n th a b d : Int) (w : World) (hk : KindsOk w) :
    Calls Tryd.prog 9 #[.int .i64 name, .int .i64 n, .agg #[.int .i64 th, .int .i64 a, .int .i64 b, .int .i64 d]] w (Keeps (.bool true) w) := by
  have HK := Lib.hid hk
  clear hk
  by_cases hz : Venn.nameOk name = true ∧ Venn.someChk ⟨oneAtom name n, [0]⟩ name ⟨th, a, b, d⟩ = 0
  · obtain ⟨hn, hc⟩ := hz
    have hp := someChk_parts hc
    have HX := Lib.hid (errV_zero hc)
    have HI := Lib.hid (show someIsV (oneAtom name n) [0] name th a b d = decide (n ≤ th) by rw [someIsV, if_pos hc]; exact one_is name n hn ⟨th, a, b, d⟩ hp.2.2)
    have hc2 : Venn.someChk ⟨oneAtom name 0, [0]⟩ name ⟨th, a, b, d⟩ = 0 := by rw [Venn.someChk, if_pos (one_chk name hn), if_pos hn]; exact hp.2.2
    have HY := Lib.hid (errV_zero hc2)
    have HJ := Lib.hid (show someEachV (oneAtom name 0) [0] name th a b d = true by rw [someEachV, if_pos hc2]; exact one_each name hn ⟨th, a, b, d⟩)
    have hn0 : ¬ name < 0 := by simp [Venn.nameOk] at hn; omega
    have hn2 : ¬ 2 < name := by simp [Venn.nameOk] at hn; omega
    clear hn hc hp hc2
    have HIB : ∃ q : Bool, someIsV (oneAtom name n) [0] name th a b d = q ∧ ((q = true ∧ n ≤ th) ∨ (q = false ∧ ¬ n ≤ th)) := by
      rw [HI.out]
      by_cases h : n ≤ th
      · exact ⟨true, decide_eq_true h, .inl ⟨rfl, h⟩⟩
      · exact ⟨false, decide_eq_false h, .inr ⟨rfl, h⟩⟩
    obtain ⟨q, hq, hqq⟩ := HIB
    have HQ := Lib.hid hq
    clear hq HI
    rcases hqq with ⟨rfl, hnt⟩ | ⟨rfl, hnt⟩
    all_goals
      go_enter Tryd.func9, Tryd.ntmps9
      go_wp2_with fail
      go_region_law (first
        | (go_simp; go_at_call 27; refine (vennlaw4_atomOf name n _).mono ?_; rintro e w1 ⟨A1, C1, rfl, hb1, hA1, hC1⟩; have BW1 := ((Blk.new w 36 #[.int .i64 th, .int .i64 a, .int .i64 b, .int .i64 d]).drew).keep hb1; obtain ⟨d0, d1, d2, d3⟩ := BW1.cells4; have hl1 := BW1.lt)
        | (go_simp; go_at_call 26; refine (some_Is _ _ (oneAtom name n) [0] _ _ _ _ _ _ hA1 hC1 (HK.out.keep (by (repeat' (first | (with_reducible exact Below.refl _ _) | (with_reducible refine Below.next ?_ (by with_reducible assumption)) | (with_reducible refine Below.drew ?_) | (with_reducible refine Below.laid ?_ _) | (with_reducible refine Below.setCell ?_ ?_ _) | (with_reducible refine size_of ?_) | (with_reducible refine Nat.le_succ_of_le ?_) | go_size))))).mono ?_; rintro e w2 ⟨rfl, hb2⟩; rw [HX.out, HQ.out]; have BW2 := BW1.keep hb2; obtain ⟨f0, f1, f2, f3⟩ := BW2.cells4; have hl2 := BW2.lt))
      all_goals
        clear d0 d1 d2 d3
        go_wp2_with fail
        go_region_law (first
          | (go_simp; go_at_call 27; refine (vennlaw4_atomOf name 0 _).mono ?_; rintro e w3 ⟨A3, C3, rfl, hb3, hA3, hC3⟩; have BW3 := (BW2.drew).keep hb3; obtain ⟨d0, d1, d2, d3⟩ := BW3.cells4; have hl3 := BW3.lt)
          | (go_simp; go_at_call 28; refine (some_Each _ _ (oneAtom name 0) [0] _ _ _ _ _ _ hA3 hC3 (HK.out.keep (by (repeat' (first | (with_reducible exact Below.refl _ _) | (with_reducible refine Below.next ?_ (by with_reducible assumption)) | (with_reducible refine Below.drew ?_) | (with_reducible refine Below.laid ?_ _) | (with_reducible refine Below.setCell ?_ ?_ _) | (with_reducible refine size_of ?_) | (with_reducible refine Nat.le_succ_of_le ?_) | go_size))))).mono ?_; rintro e w4 ⟨rfl, hb4⟩; rw [HY.out, HJ.out]; have BW4 := BW3.keep hb4; obtain ⟨g0, g1, g2, g3⟩ := BW4.cells4; have hl4 := BW4.lt))
        all_goals
          go_wp2
          go_ret
          refine ⟨?_, by (repeat' (first | (with_reducible exact Below.refl _ _) | (with_reducible refine Below.next ?_ (by with_reducible assumption)) | (with_reducible refine Below.drew ?_) | (with_reducible refine Below.laid ?_ _) | (with_reducible refine Below.setCell ?_ ?_ _) | (with_reducible refine size_of ?_) | (with_reducible refine Nat.le_succ_of_le ?_) | go_size))⟩
          first | rfl | exact ret_bool (by simp [hnt]) | (exfalso; omega) | (trace_state; sorry)
  · have hne : Venn.someChk ⟨oneAtom name n, [0]⟩ name ⟨th, a, b, d⟩ ≠ 0 := fun h => hz ⟨(someChk_parts h).2.1, h⟩
    have HX := Lib.hid (errV_ne hne)
    have HI := Lib.hid (show someIsV (oneAtom name n) [0] name th a b d = false by rw [someIsV, if_neg hne])
    have HY := Lib.hid (show errV (Venn.someChk ⟨[], []⟩ 0 ⟨th, a, b, d⟩) = .iface 66 (.int .i64 5) from rfl)
    have HJ := Lib.hid (show someEachV [] [] 0 th a b d = false from rfl)
    clear hne hz
    rcases (by omega : name < 0 ∨ (¬ name < 0 ∧ 2 < name) ∨ (¬ name < 0 ∧ ¬ 2 < name)) with hn0 | ⟨hn0, hn2⟩ | ⟨hn0, hn2⟩
    all_goals
      go_enter Tryd.func9, Tryd.ntmps9
      go_wp2_with fail
      go_region_law (first
        | (go_simp; go_at_call 27; refine (vennlaw4_atomOf name n _).mono ?_; rintro e w1 ⟨A1, C1, rfl, hb1, hA1, hC1⟩; have BW1 := ((Blk.new w 36 #[.int .i64 th, .int .i64 a, .int .i64 b, .int .i64 d]).drew).keep hb1; obtain ⟨d0, d1, d2, d3⟩ := BW1.cells4; have hl1 := BW1.lt)
        | (go_simp; go_at_call 26; refine (some_Is _ _ (oneAtom name n) [0] _ _ _ _ _ _ hA1 hC1 (HK.out.keep (by (repeat' (first | (with_reducible exact Below.refl _ _) | (with_reducible refine Below.next ?_ (by with_reducible assumption)) | (with_reducible refine Below.drew ?_) | (with_reducible refine Below.laid ?_ _) | (with_reducible refine Below.setCell ?_ ?_ _) | (with_reducible refine size_of ?_) | (with_reducible refine Nat.le_succ_of_le ?_) | go_size))))).mono ?_; rintro e w2 ⟨rfl, hb2⟩; rw [HX.out, HI.out]; have BW2 := BW1.keep hb2; obtain ⟨f0, f1, f2, f3⟩ := BW2.cells4; have hl2 := BW2.lt))
      all_goals
        clear d0 d1 d2 d3
        go_wp2_with fail
        refine (some_Each _ _ [] [] _ _ _ _ _ _ (IsAtoms.nil _) (IsIntsNil _) (HK.out.keep (by (repeat' (first | (with_reducible exact Below.refl _ _) | (with_reducible refine Below.next ?_ (by with_reducible assumption)) | (with_reducible refine Below.drew ?_) | (with_reducible refine Below.laid ?_ _) | (with_reducible refine Below.setCell ?_ ?_ _) | (with_reducible refine size_of ?_) | (with_reducible refine Nat.le_succ_of_le ?_) | go_size))))).mono ?_
        rintro e w3 ⟨rfl, hb3⟩
        rw [HY.out, HJ.out]
        go_wp2
        go_ret
        exact ⟨rfl, by (repeat' (first | (with_reducible exact Below.refl _ _) | (with_reducible refine Below.next ?_ (by with_reducible assumption)) | (with_reducible refine Below.drew ?_) | (with_reducible refine Below.laid ?_ _) | (with_reducible refine Below.setCell ?_ ?_ _) | (with_reducible refine size_of ?_) | (with_reducible refine Nat.le_succ_of_le ?_) | go_size))⟩

set_option maxRecDepth 100000 in
theorem someName_contract (H : Type) (enc : TypeId × Value → H) (W : World) (base : Nat) (args : Array Value) (ds gs : List (DataW H)) (before : List MemPlace)
    (hval : ∀ (j : Nat) t v, Tryd.f9.params[j]? = some t → args[j]? = some v → Value.okWide Tryd.prog W .any base t v)
    (hW : DataW.Whole enc Tryd.prog Tryd.f9.params.toList Rows.someNameSpec.vars false W args.toList ds gs before) (hL : laidMetH Tryd.prog Rows.someNameRow.laid W)
    : Calls Tryd.prog 9 args W fun e W' => ∃ v, e = .returned v ∧ Rows.someNameSpec.post enc Tryd.prog Tryd.f9 false true false false W args v W' := by
  have hW' := hW
  obtain ⟨p, q, hA0, hV, rfl, hfz, hnd⟩ := hW
  have hA : DataW.TrodAll enc Tryd.prog W 0 (fun _ => true) true Tryd.f9.params.toList args.toList ds p := hA0
  rw [Tryd.params9] at hA hval
  obtain ⟨v0, vs0, d0, ds0, p0, q0, hargs, rfl, rfl, h0, r0⟩ := trodAll_cons hA
  obtain ⟨v1, vs1, d1, ds1, p1, q1, rfl, rfl, rfl, h1, r1⟩ := trodAll_cons r0
  obtain ⟨v2, vs2, d2, ds2, p2, q2, rfl, rfl, rfl, h2, r2⟩ := trodAll_cons r1
  obtain ⟨rfl, rfl, rfl⟩ := trodAll_nil r2
  obtain rfl : args = #[v0, v1, v2] := by cases args; simp_all
  obtain ⟨rfl, rfl⟩ := trodVars_none hV
  have HKI : KindsOk W := kinds_of_laid hL (by repeat (first | exact List.Mem.head _ | apply List.Mem.tail))
  obtain ⟨n, rfl, rfl, rfl, wn⟩ := open_int Tryd.underlying3 (hval 0 3 v0 rfl rfl) h0
  obtain ⟨m, rfl, rfl, rfl, wm⟩ := open_int Tryd.underlying3 (hval 1 3 v1 rfl rfl) h1
  obtain ⟨xth, xa, xb, xc, rfl, xwf⟩ := open_world (hval 2 36 v2 rfl rfl) h2
  clear hA0
  refine (someName_walk n m xth xa xb xc W HKI).mono fun e W' ⟨he, hw⟩ => ?_
  subst he
  exact ⟨_, rfl, law_post laidOut Tryd.underlying4 (by kernel_rfl) rfl (by kernel_rfl) hW' rfl hw⟩

theorem someName_met (os : Os) : laidMetH Tryd.prog Rows.someNameRow.laid ((World.doorLaid Tryd.prog 400 os).forCall (fun _ _ => 0) ⟨#[], #[.int .i64 0, .int .i64 0, .agg #[.int .i64 0, .int .i64 0, .int .i64 0, .int .i64 0]], []⟩).memory :=
  laidMetH_of_parts3 (fuel := 8) (laidMet_of_run' 8 (by kernel_rfl) (by kernel_rfl)) (by kernel_rfl) (by kernel_rfl)

set_option maxRecDepth 100000 in
theorem someName_lifted (os : Os) (started : os.Started) (H : Type) (enc : TypeId × Value → H) (F : Stop.Interp) :
    ReturnsInHanded {} Tryd.checked os 9 .any ((OpenSpec.ofChange Rows.someNameSpec).preRow enc Tryd.prog Tryd.f9 Rows.someNameRow.domain false Rows.someNameRow.laid) (((OpenSpec.ofChange Rows.someNameSpec).at F).post enc Tryd.prog Tryd.f9 false true false false) := by
  refine returnsInHanded_of_row (C := Tryd.checked) (s := (OpenSpec.ofChange Rows.someNameSpec)) own started (by kernel_rfl) Tryd.func9
    (witness_row_at (enc := enc) (C := Tryd.checked) false (World.doorLaid Tryd.prog 400 os) #[.int .i64 0, .int .i64 0, .agg #[.int .i64 0, .int .i64 0, .int .i64 0, .int .i64 0]] rfl (by kernel_rfl) (by kernel_rfl) (by kernel_rfl)
      (OpenSpec.preRow_of_cond 8 (x := ([.lit (.int .i64 0), .lit (.int .i64 0), .agg [.lit (.int .i64 0), .agg [.lit (.int .i64 0), .lit (.int .i64 0), .lit (.int .i64 0)]]], [], [])) (by kernel_rfl) (by kernel_rfl) (fun k hk => by cases hk) (by kernel_rfl) (someName_met os))) ?_
  intro W base args ds gs before hval hW _ HKU _ hL _ _
  exact someName_contract H enc W base args ds gs before hval hW hL

theorem someName_said : Rows.SomeNameSaid :=
  OpenClaim.holds_of_cond 9 Tryd.f9 rfl rfl rfl rfl rfl rfl rfl ⟨rfl, rfl, rfl, rfl, rfl⟩ rfl rfl rfl rfl rfl (by kernel_rfl) Tryd.func9 (by kernel_rfl)
    (of_decide_eq_true (by kernel_rfl)) (by unfold Func.isWrapper; first | (rw [if_pos (by decide +kernel)]; kernel_rfl) | (rw [if_neg (by decide +kernel)]; exact ⟨rfl, rfl⟩))
    (fun os started H enc _ F => by rw [OpenClaim.pre_eq_preRow]; exact someName_lifted os started H enc F)

theorem someName_plain (f : FuncId) (fn : Func) (hf : Tryd.pinned.checked.prog.funcNamed "vennhouse/vennlaw4.SomeName" = some f) (hfn : Tryd.pinned.checked.prog.funcs[f]? = some fn) :
    true = Tryd.pinned.checked.prog.looks [] ∧ ∀ (j : Nat) t, fn.params[j]? = some t → Tryd.pinned.checked.prog.wantsStandIn t = false := by
  obtain rfl : f = 9 := Option.some.inj ((show Tryd.prog.funcNamed "vennhouse/vennlaw4.SomeName" = some 9 by kernel_rfl).symm.trans hf) |>.symm
  obtain rfl : fn = Tryd.f9 := (Option.some.inj (Tryd.func9.symm.trans hfn)).symm
  refine ⟨by kernel_rfl, fun j t ht => ?_⟩
  rw [Tryd.params9] at ht
  have ht' := Array.mem_of_getElem? ht
  have hall : ∀ t ∈ (#[3, 3, 36] : Array TypeId), Tryd.prog.wantsStandIn t = false := fun t ht => by
    simp only [List.mem_toArray, List.mem_cons, List.not_mem_nil, or_false] at ht
    rcases ht with rfl | rfl | rfl
    all_goals kernel_rfl
  exact hall t ht'

theorem someName_holds : Rows.SomeNameCardSaid :=
  Claim7.holds_tied_plain_at .later [] _ _ _ _ someName_said (fun _ h => by cases h) (by kernel_rfl) (fun _ h => by cases h) someName_row_tie rfl ⟨rfl, rfl⟩ (by kernel_rfl) rfl someName_plain (by kernel_rfl)
#print axioms someName_holds
end Go.Proofs.YteikjcboehilpaaDoor
