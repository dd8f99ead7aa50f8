/-
  PROVED: vennlaw4.FitEnds answers true, at any number. No condition beyond the card's own list.
-/
import Derived.Test.YteikjcboehilpaaDoorFit
import Derived.Test.YteikjcboehilpaaDoorDoorLaw
namespace Go.Proofs.YteikjcboehilpaaDoor
open Go.ChangeShapes Go.WideShapes Go.ChangeAt Go.RowKit

theorem fitEnds_facts {u : Int} (h : Venn.things u = true) :
    leastV u [] = .tuple #[.agg #[.int .i64 0, .int .i64 0, .int .i64 0, .int .i64 0, .int .i64 0, .int .i64 0, .int .i64 0, .int .i64 u], .nilIface] ∧
    nextV u [u, 0, 0, 0, 0, 0, 0, 0] = .tuple #[.agg zero8, .iface 66 (.int .i64 5)] := by
  obtain ⟨r, hr⟩ := (Venn.links_allC h).2
  have hb := things_parts h
  have h0 : Venn.fitChk u [] = 0 := by rw [Venn.fitChk, if_pos h]; rfl
  refine ⟨?_, ?_⟩
  · have hf : Venn.firstFit u [] = some [0, 0, 0, 0, 0, 0, 0, u] := by rw [Venn.firstFit, hr]; rfl
    rw [leastV, if_pos h0, hf]
    rfl
  · have hc : Venn.countsChk [u, 0, 0, 0, 0, 0, 0, 0] = 0 := by
      have ht : Venn.things 0 = true := by decide
      simp [Venn.countsChk, h, ht]
      omega
    rw [nextV, if_pos h, if_pos hc, if_pos (by simp)]
    rfl

set_option maxHeartbeats 1000000 in
theorem fitEnds_walk (u : Int) (w : World) (HET : EtOk w) : Calls Tryd.prog 7 #[.int .i64 u] w (Keeps (.bool true) w) := by
  by_cases hu : 0 ≤ u ∧ u ≤ 6
  · obtain ⟨f1, f2⟩ := fitEnds_facts (things_of hu.1 hu.2)
    have F1 := Lib.hid f1; have F2 := Lib.hid f2
    clear f1 f2
    go_enter Tryd.func7, Tryd.ntmps7
    go_wp2_with fail
    refine (fit_Least u _ [] _ (IsRows.nil _)).mono ?_
    rintro e w1 ⟨rfl, hb1⟩
    rw [F1.out]
    go_wp2_with fail
    refine (fit_Next u u 0 0 0 0 0 0 0 _).mono ?_
    rintro e w2 ⟨rfl, hb2⟩
    rw [F2.out]
    have B1 := ((Blk.new w1 25 #[.int .i64 0, .int .i64 0, .int .i64 0, .int .i64 0, .int .i64 0, .int .i64 0, .int .i64 0, .int .i64 u]).alloc (.cells #[.int .i64 u, .int .i64 0, .int .i64 0, .int .i64 0, .int .i64 0, .int .i64 0, .int .i64 0, .int .i64 0] 25)).keep hb2
    have c7 := B1.cell 7
    have hlt := B1.lt
    go_wp2_with (go_at_call 14; refine (vennsame_Error 5 _ _ (HET.keep (by (repeat' (first | (with_reducible exact Below.refl _ _) | (with_reducible refine Below.next ?_ (by with_reducible assumption)) | (with_reducible refine Below.drew ?_) | (with_reducible refine Below.laid ?_ _) | (with_reducible refine Below.setCell ?_ ?_ _) | (with_reducible refine size_of ?_) | (with_reducible refine Nat.le_succ_of_le ?_) | go_size))))).mono ?_; rintro e w3 ⟨rfl, hb3⟩)
    go_ret
    exact ⟨rfl, by (repeat' (first | (with_reducible exact Below.refl _ _) | (with_reducible refine Below.next ?_ (by with_reducible assumption)) | (with_reducible refine Below.drew ?_) | (with_reducible refine Below.laid ?_ _) | (with_reducible refine Below.setCell ?_ ?_ _) | (with_reducible refine size_of ?_) | (with_reducible refine Nat.le_succ_of_le ?_) | go_size))⟩
  · have hv : leastV u [] = .tuple #[.agg zero8, .iface 66 (.int .i64 1)] := by
      have h0 : Venn.fitChk u [] = 1 := by rw [Venn.fitChk, if_neg (by simp [Venn.things]; omega)]
      rw [leastV, h0]; rfl
    have F1 := Lib.hid hv
    clear hv
    rcases (by omega : u < 0 ∨ (¬ u < 0 ∧ 6 < u)) with h0 | ⟨h0, h6⟩
    all_goals
      go_enter Tryd.func7, Tryd.ntmps7
      go_wp2_with fail
      refine (fit_Least u _ [] _ (IsRows.nil _)).mono ?_
      rintro e w1 ⟨rfl, hb1⟩
      rw [F1.out]
      go_wp2
      all_goals (first | (exfalso; omega) | (go_ret; exact ⟨rfl, by (repeat' (first | (with_reducible exact Below.refl _ _) | (with_reducible refine Below.next ?_ (by with_reducible assumption)) | (with_reducible refine Below.drew ?_) | (with_reducible refine Below.laid ?_ _) | (with_reducible refine Below.setCell ?_ ?_ _) | (with_reducible refine size_of ?_) | (with_reducible refine Nat.le_succ_of_le ?_) | go_size))⟩))

set_option maxRecDepth 100000 in
theorem fitEnds_contract (H : Type) (enc : TypeId × Value → H) (W : World) (base : Nat) (args : Array Value) (ds gs : List (DataW H)) (before : List MemPlace)
    (hval : ∀ (j : Nat) t v, Tryd.f7.params[j]? = some t → args[j]? = some v → Value.okWide Tryd.prog W .any base t v)
    (hW : DataW.Whole enc Tryd.prog Tryd.f7.params.toList Rows.fitEndsSpec.vars false W args.toList ds gs before) (hL : laidMetH Tryd.prog Rows.fitEndsRow.laid W)
    : Calls Tryd.prog 7 args W fun e W' => ∃ v, e = .returned v ∧ Rows.fitEndsSpec.post enc Tryd.prog Tryd.f7 false true false false W args v W' := by
  have hW' := hW
  obtain ⟨p, q, hA0, hV, rfl, hfz, hnd⟩ := hW
  have hA : DataW.TrodAll enc Tryd.prog W 0 (fun _ => true) true Tryd.f7.params.toList args.toList ds p := hA0
  rw [Tryd.params7] at hA hval
  obtain ⟨v0, vs0, d0, ds0, p0, q0, hargs, rfl, rfl, h0, r0⟩ := trodAll_cons hA
  obtain ⟨rfl, rfl, rfl⟩ := trodAll_nil r0
  obtain rfl : args = #[v0] := by cases args; simp_all
  obtain ⟨rfl, rfl⟩ := trodVars_none hV
  have HET : EtOk W := et_of_laid hL (by repeat (first | exact List.Mem.head _ | apply List.Mem.tail))
  obtain ⟨u, rfl, rfl, rfl, wu⟩ := open_int Tryd.underlying3 (hval 0 3 v0 rfl rfl) h0
  clear hA0
  refine (fitEnds_walk u W HET).mono fun e W' ⟨he, hw⟩ => ?_
  subst he
  exact ⟨_, rfl, law_post laidOut Tryd.underlying4 (by kernel_rfl) rfl (by kernel_rfl) hW' rfl hw⟩

theorem fitEnds_met (os : Os) : laidMetH Tryd.prog Rows.fitEndsRow.laid ((World.doorLaid Tryd.prog 400 os).forCall (fun _ _ => 0) ⟨#[], #[.int .i64 0], []⟩).memory :=
  laidMetH_of_parts3 (fuel := 8) (laidMet_of_run' 8 (by kernel_rfl) (by kernel_rfl)) (by kernel_rfl) (by kernel_rfl)

set_option maxRecDepth 100000 in
theorem fitEnds_lifted (os : Os) (started : os.Started) (H : Type) (enc : TypeId × Value → H) (F : Stop.Interp) :
    ReturnsInHanded {} Tryd.checked os 7 .any ((OpenSpec.ofChange Rows.fitEndsSpec).preRow enc Tryd.prog Tryd.f7 Rows.fitEndsRow.domain false Rows.fitEndsRow.laid) (((OpenSpec.ofChange Rows.fitEndsSpec).at F).post enc Tryd.prog Tryd.f7 false true false false) := by
  refine returnsInHanded_of_row (C := Tryd.checked) (s := (OpenSpec.ofChange Rows.fitEndsSpec)) own started (by kernel_rfl) Tryd.func7
    (witness_row_at (enc := enc) (C := Tryd.checked) false (World.doorLaid Tryd.prog 400 os) #[.int .i64 0] rfl (by kernel_rfl) (by kernel_rfl) (by kernel_rfl)
      (OpenSpec.preRow_of_cond 8 (x := ([.lit (.int .i64 0)], [], [])) (by kernel_rfl) (by kernel_rfl) (fun k hk => by cases hk) (by kernel_rfl) (fitEnds_met os))) ?_
  intro W base args ds gs before hval hW _ HKU _ hL _ _
  exact fitEnds_contract H enc W base args ds gs before hval hW hL

theorem fitEnds_said : Rows.FitEndsSaid :=
  OpenClaim.holds_of_cond 7 Tryd.f7 rfl rfl rfl rfl rfl rfl rfl ⟨rfl, rfl, rfl, rfl, rfl⟩ rfl rfl rfl rfl rfl (by kernel_rfl) Tryd.func7 (by kernel_rfl)
    (of_decide_eq_true (by kernel_rfl)) (by unfold Func.isWrapper; first | (rw [if_pos (by decide +kernel)]; kernel_rfl) | (rw [if_neg (by decide +kernel)]; exact ⟨rfl, rfl⟩))
    (fun os started H enc _ F => by rw [OpenClaim.pre_eq_preRow]; exact fitEnds_lifted os started H enc F)

theorem fitEnds_plain (f : FuncId) (fn : Func) (hf : Tryd.pinned.checked.prog.funcNamed "vennhouse/vennlaw4.FitEnds" = some f) (hfn : Tryd.pinned.checked.prog.funcs[f]? = some fn) :
    true = Tryd.pinned.checked.prog.looks [] ∧ ∀ (j : Nat) t, fn.params[j]? = some t → Tryd.pinned.checked.prog.wantsStandIn t = false := by
  obtain rfl : f = 7 := Option.some.inj ((show Tryd.prog.funcNamed "vennhouse/vennlaw4.FitEnds" = some 7 by kernel_rfl).symm.trans hf) |>.symm
  obtain rfl : fn = Tryd.f7 := (Option.some.inj (Tryd.func7.symm.trans hfn)).symm
  refine ⟨by kernel_rfl, fun j t ht => ?_⟩
  rw [Tryd.params7] at ht
  have ht' := Array.mem_of_getElem? ht
  have hall : ∀ t ∈ (#[3] : Array TypeId), Tryd.prog.wantsStandIn t = false := fun t ht => by
    simp only [List.mem_toArray, List.mem_cons, List.not_mem_nil, or_false] at ht
    rcases ht with rfl
    all_goals kernel_rfl
  exact hall t ht'

theorem fitEnds_holds : Rows.FitEndsCardSaid :=
  Claim7.holds_tied_plain_at .later [] _ _ _ _ fitEnds_said (fun _ h => by cases h) (by kernel_rfl) (fun _ h => by cases h) fitEnds_row_tie rfl ⟨rfl, rfl⟩ (by kernel_rfl) rfl fitEnds_plain (by kernel_rfl)
#print axioms fitEnds_holds
end Go.Proofs.YteikjcboehilpaaDoor
