/-
  PROVED: vennlaw4.CubesOne answers true, at any atom. No condition beyond the card's own list.
-/
import Derived.Test.YtlpfbdejiifbpaaDoorCubesOneW
import Derived.Test.YtlpfbdejiifbpaaDoorLawF
namespace Go.Proofs.YtlpfbdejiifbpaaDoor
open Go.ChangeShapes Go.WideShapes Go.ChangeAt Go.RowKit

set_option maxRecDepth 100000 in
theorem cubesOne_contract (H : Type) (enc : TypeId × Value → H) (W : World) (base : Nat) (args : Array Value) (ds gs : List (DataW H)) (before : List MemPlace)
    (hval : ∀ (j : Nat) t v, Tryd.f4.params[j]? = some t → args[j]? = some v → Value.okWide Tryd.prog W .any base t v)
    (hW : DataW.Whole enc Tryd.prog Tryd.f4.params.toList Rows.cubesOneSpec.vars false W args.toList ds gs before) (hL : laidMetH Tryd.prog Rows.cubesOneRow.laid W)
    : Calls Tryd.prog 4 args W fun e W' => ∃ v, e = .returned v ∧ Rows.cubesOneSpec.post enc Tryd.prog Tryd.f4 false true false false W args v W' := by
  have hW' := hW
  obtain ⟨p, q, hA0, hV, rfl, hfz, hnd⟩ := hW
  have hA : DataW.TrodAll enc Tryd.prog W 0 (fun _ => true) true Tryd.f4.params.toList args.toList ds p := hA0
  rw [Tryd.params4] at hA hval
  obtain ⟨v0, vs0, d0, ds0, p0, q0, hargs, rfl, rfl, h0, r0⟩ := trodAll_cons hA
  obtain ⟨rfl, rfl, rfl⟩ := trodAll_nil r0
  obtain rfl : args = #[v0] := by cases args; simp_all
  obtain ⟨rfl, rfl⟩ := trodVars_none hV
  have HKI : KindsOk W := kinds_of_laid hL (by repeat (first | exact List.Mem.head _ | apply List.Mem.tail))
  obtain ⟨xw, xn, xs, xt, xsv, xtv, rfl, xhs, xht, xww, xwn⟩ := open_atom (hval 0 32 v0 rfl rfl) h0
  clear hA0
  refine (cubesOne_walk xw xn xsv xtv xs xt W xhs xht HKI).mono fun e W' ⟨he, hw⟩ => ?_
  subst he
  exact ⟨_, rfl, law_post laidOut Tryd.underlying4 (by kernel_rfl) rfl (by kernel_rfl) hW' rfl hw⟩

theorem cubesOne_met (os : Os) : laidMetH Tryd.prog Rows.cubesOneRow.laid ((World.doorLaid Tryd.prog 400 os).forCall (fun _ _ => 0) ⟨#[], #[.agg #[.int .i64 0, .slice none 0 0, .slice none 0 0, .int .i64 0]], []⟩).memory :=
  laidMetH_of_parts3 (fuel := 8) (laidMet_of_run' 8 (by kernel_rfl) (by kernel_rfl)) (by kernel_rfl) (by kernel_rfl)

set_option maxRecDepth 100000 in
theorem cubesOne_lifted (os : Os) (started : os.Started) (H : Type) (enc : TypeId × Value → H) (F : Stop.Interp) :
    ReturnsInHanded {} Tryd.checked os 4 .any ((OpenSpec.ofChange Rows.cubesOneSpec).preRow enc Tryd.prog Tryd.f4 Rows.cubesOneRow.domain false Rows.cubesOneRow.laid) (((OpenSpec.ofChange Rows.cubesOneSpec).at F).post enc Tryd.prog Tryd.f4 false true false false) := by
  refine returnsInHanded_of_row (C := Tryd.checked) (s := (OpenSpec.ofChange Rows.cubesOneSpec)) own started (by kernel_rfl) Tryd.func4
    (witness_row_at (enc := enc) (C := Tryd.checked) false (World.doorLaid Tryd.prog 400 os) #[.agg #[.int .i64 0, .slice none 0 0, .slice none 0 0, .int .i64 0]] rfl (by kernel_rfl) (by kernel_rfl) (by kernel_rfl)
      (OpenSpec.preRow_of_cond 8 (x := ([.agg [.lit (.int .i64 0), .nil, .nil, .lit (.int .i64 0)]], [], [])) (by kernel_rfl) (by kernel_rfl) (fun k hk => by cases hk) (by kernel_rfl) (cubesOne_met os))) ?_
  intro W base args ds gs before hval hW _ HKU _ hL _ _
  exact cubesOne_contract H enc W base args ds gs before hval hW hL

theorem cubesOne_said : Rows.CubesOneSaid :=
  OpenClaim.holds_of_cond 4 Tryd.f4 rfl rfl rfl rfl rfl rfl rfl ⟨rfl, rfl, rfl, rfl, rfl⟩ rfl rfl rfl rfl rfl (by kernel_rfl) Tryd.func4 (by kernel_rfl)
    (of_decide_eq_true (by kernel_rfl)) (by unfold Func.isWrapper; first | (rw [if_pos (by decide +kernel)]; kernel_rfl) | (rw [if_neg (by decide +kernel)]; exact ⟨rfl, rfl⟩))
    (fun os started H enc _ F => by rw [OpenClaim.pre_eq_preRow]; exact cubesOne_lifted os started H enc F)

theorem cubesOne_plain (f : FuncId) (fn : Func) (hf : Tryd.pinned.checked.prog.funcNamed "vennhouse/vennlaw4.CubesOne" = some f) (hfn : Tryd.pinned.checked.prog.funcs[f]? = some fn) :
    true = Tryd.pinned.checked.prog.looks [] ∧ ∀ (j : Nat) t, fn.params[j]? = some t → Tryd.pinned.checked.prog.wantsStandIn t = false := by
  obtain rfl : f = 4 := Option.some.inj ((show Tryd.prog.funcNamed "vennhouse/vennlaw4.CubesOne" = some 4 by kernel_rfl).symm.trans hf) |>.symm
  obtain rfl : fn = Tryd.f4 := (Option.some.inj (Tryd.func4.symm.trans hfn)).symm
  refine ⟨by kernel_rfl, fun j t ht => ?_⟩
  rw [Tryd.params4] at ht
  have ht' := Array.mem_of_getElem? ht
  have hall : ∀ t ∈ (#[32] : Array TypeId), Tryd.prog.wantsStandIn t = false := fun t ht => by
    simp only [List.mem_toArray, List.mem_cons, List.not_mem_nil, or_false] at ht
    rcases ht with rfl
    all_goals kernel_rfl
  exact hall t ht'

theorem cubesOne_holds : Rows.CubesOneCardSaid :=
  Claim7.holds_tied_plain_at .later [] _ _ _ _ cubesOne_said (fun _ h => by cases h) (by kernel_rfl) (fun _ h => by cases h) cubesOne_row_tie rfl ⟨rfl, rfl⟩ (by kernel_rfl) rfl cubesOne_plain (by kernel_rfl)
#print axioms cubesOne_holds
end Go.Proofs.YtlpfbdejiifbpaaDoor
