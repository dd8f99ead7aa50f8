/-
  PROVED: vennlaw2.AlikeWorlds answers true, at any two terms, world and names. No condition beyond the card's own list.
-/
import Derived.Test.YtpkleioabinkkaaGreatDoorAlikeWorldsW
namespace Go.Proofs.YtpkleioabinkkaaGreatDoor
open Go.ChangeShapes Go.WideShapes Go.ChangeAt Go.RowKit

set_option maxRecDepth 100000 in
theorem alikeWorlds_contract (H : Type) (enc : TypeId × Value → H) (W : World) (base : Nat) (args : Array Value) (ds gs : List (DataW H)) (before : List MemPlace)
    (hval : ∀ (j : Nat) t v, Tryz.f9.params[j]? = some t → args[j]? = some v → Value.okWide Tryz.prog W .any base t v)
    (hW : DataW.Whole enc Tryz.prog Tryz.f9.params.toList Rows.alikeWorldsSpec.vars false W args.toList ds gs before) (hL : laidMetH Tryz.prog Rows.alikeWorldsRow.laid W)
    : Calls Tryz.prog 9 args W fun e W' => ∃ v, e = .returned v ∧ Rows.alikeWorldsSpec.post enc Tryz.prog Tryz.f9 false true false false W args v W' := by
  have hW' := hW
  obtain ⟨p, q, hA0, hV, rfl, hfz, hnd⟩ := hW
  have hA : DataW.TrodAll enc Tryz.prog W 0 (fun _ => true) true Tryz.f9.params.toList args.toList ds p := hA0
  rw [Tryz.params9] at hA hval
  obtain ⟨v0, vs0, d0, ds0, p0, q0, hargs, rfl, rfl, h0, r0⟩ := trodAll_cons hA
  obtain ⟨v1, vs1, d1, ds1, p1, q1, rfl, rfl, rfl, h1, r1⟩ := trodAll_cons r0
  obtain ⟨v2, vs2, d2, ds2, p2, q2, rfl, rfl, rfl, h2, r2⟩ := trodAll_cons r1
  obtain ⟨v3, vs3, d3, ds3, p3, q3, rfl, rfl, rfl, h3, r3⟩ := trodAll_cons r2
  obtain ⟨v4, vs4, d4, ds4, p4, q4, rfl, rfl, rfl, h4, r4⟩ := trodAll_cons r3
  obtain ⟨rfl, rfl, rfl⟩ := trodAll_nil r4
  obtain rfl : args = #[v0, v1, v2, v3, v4] := by cases args; simp_all
  obtain ⟨rfl, rfl⟩ := trodVars_none hV
  have HET : EtOk W := et_of_laid hL (by repeat (first | exact List.Mem.head _ | apply List.Mem.tail))
  have HKI : KindsOk W := kinds_of_laid hL (by repeat (first | exact List.Mem.head _ | apply List.Mem.tail))
  obtain ⟨s, Hs, wfs⟩ := open_isInts Tryz.underlying23 Tryz.underlying3 (by kernel_rfl) (hval 0 23 v0 rfl rfl) h0
  obtain ⟨t, Ht, wft⟩ := open_isInts Tryz.underlying23 Tryz.underlying3 (by kernel_rfl) (hval 1 23 v1 rfl rfl) h1
  obtain ⟨xth, xa, xb, xc, rfl, xwf⟩ := open_world (hval 2 28 v2 rfl rfl) h2
  obtain ⟨n, rfl, rfl, rfl, wn⟩ := open_int Tryz.underlying3 (hval 3 3 v3 rfl rfl) h3
  obtain ⟨m, rfl, rfl, rfl, wm⟩ := open_int Tryz.underlying3 (hval 4 3 v4 rfl rfl) h4
  clear hA0
  refine (alikeWorlds_walk v0 v1 s t xth xa xb xc n m W Hs Ht HKI HET).mono fun e W' ⟨he, hw⟩ => ?_
  subst he
  exact ⟨_, rfl, law_post laidOut Tryz.underlying4 (by kernel_rfl) rfl (by kernel_rfl) hW' rfl hw⟩

theorem alikeWorlds_met (os : Os) : laidMetH Tryz.prog Rows.alikeWorldsRow.laid ((World.doorLaid Tryz.prog 400 os).forCall (fun _ _ => 0) ⟨#[], #[.slice none 0 0, .slice none 0 0, .agg #[.int .i64 0, .int .i64 0, .int .i64 0, .int .i64 0], .int .i64 0, .int .i64 0], []⟩).memory :=
  laidMetH_of_parts3 (fuel := 8) (laidMet_of_run' 8 (by kernel_rfl) (by kernel_rfl)) (by kernel_rfl) (by kernel_rfl)

set_option maxRecDepth 100000 in
theorem alikeWorlds_lifted (os : Os) (started : os.Started) (H : Type) (enc : TypeId × Value → H) (F : Stop.Interp) :
    ReturnsInHanded {} Tryz.checked os 9 .any ((OpenSpec.ofChange Rows.alikeWorldsSpec).preRow enc Tryz.prog Tryz.f9 Rows.alikeWorldsRow.domain false Rows.alikeWorldsRow.laid) (((OpenSpec.ofChange Rows.alikeWorldsSpec).at F).post enc Tryz.prog Tryz.f9 false true false false) := by
  refine returnsInHanded_of_row (C := Tryz.checked) (s := (OpenSpec.ofChange Rows.alikeWorldsSpec)) own started (by kernel_rfl) Tryz.func9
    (witness_row_at (enc := enc) (C := Tryz.checked) false (World.doorLaid Tryz.prog 400 os) #[.slice none 0 0, .slice none 0 0, .agg #[.int .i64 0, .int .i64 0, .int .i64 0, .int .i64 0], .int .i64 0, .int .i64 0] rfl (by kernel_rfl) (by kernel_rfl) (by kernel_rfl)
      (OpenSpec.preRow_of_cond 8 (x := ([.nil, .nil, .agg [.lit (.int .i64 0), .agg [.lit (.int .i64 0), .lit (.int .i64 0), .lit (.int .i64 0)]], .lit (.int .i64 0), .lit (.int .i64 0)], [], [])) (by kernel_rfl) (by kernel_rfl) (fun k hk => by cases hk) (by kernel_rfl) (alikeWorlds_met os))) ?_
  intro W base args ds gs before hval hW _ HKU _ hL _ _
  exact alikeWorlds_contract H enc W base args ds gs before hval hW hL

theorem alikeWorlds_said : Rows.AlikeWorldsSaid :=
  OpenClaim.holds_of_cond 9 Tryz.f9 rfl rfl rfl rfl rfl rfl rfl ⟨rfl, rfl, rfl, rfl, rfl⟩ rfl rfl rfl rfl rfl (by kernel_rfl) Tryz.func9 (by kernel_rfl)
    (of_decide_eq_true (by kernel_rfl)) (by unfold Func.isWrapper; first | (rw [if_pos (by decide +kernel)]; kernel_rfl) | (rw [if_neg (by decide +kernel)]; exact ⟨rfl, rfl⟩))
    (fun os started H enc _ F => by rw [OpenClaim.pre_eq_preRow]; exact alikeWorlds_lifted os started H enc F)

theorem alikeWorlds_plain (f : FuncId) (fn : Func) (hf : Tryz.pinned.checked.prog.funcNamed "vennhouse/vennlaw2.AlikeWorlds" = some f) (hfn : Tryz.pinned.checked.prog.funcs[f]? = some fn) :
    true = Tryz.pinned.checked.prog.looks [] ∧ ∀ (j : Nat) t, fn.params[j]? = some t → Tryz.pinned.checked.prog.wantsStandIn t = false := by
  obtain rfl : f = 9 := Option.some.inj ((show Tryz.prog.funcNamed "vennhouse/vennlaw2.AlikeWorlds" = some 9 by kernel_rfl).symm.trans hf) |>.symm
  obtain rfl : fn = Tryz.f9 := (Option.some.inj (Tryz.func9.symm.trans hfn)).symm
  refine ⟨by kernel_rfl, fun j t ht => ?_⟩
  rw [Tryz.params9] at ht
  have ht' := Array.mem_of_getElem? ht
  have hall : ∀ t ∈ (#[23, 23, 28, 3, 3] : Array TypeId), Tryz.prog.wantsStandIn t = false := fun t ht => by
    simp only [List.mem_toArray, List.mem_cons, List.not_mem_nil, or_false] at ht
    rcases ht with rfl | rfl | rfl | rfl | rfl
    all_goals kernel_rfl
  exact hall t ht'

theorem alikeWorlds_holds : Rows.AlikeWorldsCardSaid :=
  Claim7.holds_tied_plain_at .later [] _ _ _ _ alikeWorlds_said (fun _ h => by cases h) (by kernel_rfl) (fun _ h => by cases h) alikeWorlds_row_tie rfl ⟨rfl, rfl⟩ (by kernel_rfl) rfl alikeWorlds_plain (by kernel_rfl)
#print axioms alikeWorlds_holds
end Go.Proofs.YtpkleioabinkkaaGreatDoor
