/-
  PROVED: vennlaw4.TextLines answers true, at any formula. No condition beyond the card's own list.
-/
import Derived.Test.YtkgfelbkoffaiaaGreatDoorTextLinesW
import Derived.Test.YtkgfelbkoffaiaaGreatDoorTabL
import Derived.Lay
namespace Go.Proofs.YtkgfelbkoffaiaaGreatDoor
open Go.ChangeShapes Go.WideShapes Go.ChangeAt Go.RowKit

set_option maxRecDepth 100000 in
theorem textLines_contract (H : Type) (enc : TypeId × Value → H) (W : World) (base : Nat) (args : Array Value) (ds gs : List (DataW H)) (before : List MemPlace)
    (hval : ∀ (j : Nat) t v, Tryz.f6.params[j]? = some t → args[j]? = some v → Value.okWide Tryz.prog W .any base t v)
    (hW : DataW.Whole enc Tryz.prog Tryz.f6.params.toList Rows.textLinesSpec.vars false W args.toList ds gs before) (hL : laidMetH Tryz.prog Rows.textLinesRow.laid W)
    (HSH : W.ShapedOpen Tryz.prog)
    : Calls Tryz.prog 6 args W fun e W' => ∃ v, e = .returned v ∧ Rows.textLinesSpec.post enc Tryz.prog Tryz.f6 false true false false W args v W' := by
  have hW' := hW
  obtain ⟨p, q, hA0, hV, rfl, hfz, hnd⟩ := hW
  have hA : DataW.TrodAll enc Tryz.prog W 0 (fun _ => true) true Tryz.f6.params.toList args.toList ds p := hA0
  rw [Tryz.params6] at hA hval
  obtain ⟨v0, vs0, d0, ds0, p0, q0, hargs, rfl, rfl, h0, r0⟩ := trodAll_cons hA
  obtain ⟨rfl, rfl, rfl⟩ := trodAll_nil r0
  obtain rfl : args = #[v0] := by cases args; simp_all
  obtain ⟨rfl, rfl⟩ := trodVars_none hV
  have HET : EtOk W := et_of_laid hL (by repeat (first | exact List.Mem.head _ | apply List.Mem.tail))
  have HKI : KindsOk W := kinds_of_laid hL (by repeat (first | exact List.Mem.head _ | apply List.Mem.tail))
  have HTB : TabOk W := tab_of_laid hL (by repeat (first | exact List.Mem.head _ | apply List.Mem.tail))
  have HWO : WordsOk W := words_of_laid hL (by repeat (first | exact List.Mem.head _ | apply List.Mem.tail))
  have HMX : MaxOk W := max_of_shaped HSH
  obtain ⟨fl, fc, fa, fv, rfl, fha, fhc⟩ := open_form (hval 0 25 v0 rfl rfl) h0
  clear hA0
  refine (textLines_walk fa fv fl fc W fha fhc HKI HET HTB HWO HMX).mono fun e W' ⟨he, hw⟩ => ?_
  subst he
  exact ⟨_, rfl, law_post laidOut Tryz.underlying4 (by kernel_rfl) rfl (by kernel_rfl) hW' rfl hw⟩

/-- The witness's start: as the door's run leaves it, the great table laid. -/
noncomputable def textLinesW0 (os : Os) : World := (World.doorLaid Tryz.prog 400 os).layVars Tryz.prog [("unicode/utf8.first", Go.Pinned.utf8First)]

noncomputable def textLinesB (os : Os) : List Nat := (List.range (World.doorLaid Tryz.prog 400 os).heap.size).filter fun b => b != (Tryz.prog.globalNamed "unicode/utf8.first").getD 0

theorem textLines_met (os : Os) : laidMetH Tryz.prog Rows.textLinesRow.laid ((textLinesW0 os).forCall (fun _ _ => 0) ⟨#[], #[.agg #[.slice none 0 0, .slice none 0 0]], []⟩).memory :=
  laidMetH_of_parts3 (fuel := 8) (laidMet_layVars (w0 := World.doorLaid Tryz.prog 400 os) ["unicode/utf8.first"] (textLinesB os) (by kernel_rfl) (by kernel_rfl) (by kernel_rfl)
    (LaidIn.of_run (textLinesB os) 8 (by kernel_rfl) (by kernel_rfl) (by kernel_rfl) (by kernel_rfl))) (by kernel_rfl) (by kernel_rfl)

set_option maxRecDepth 100000 in
theorem textLines_lifted (os : Os) (started : os.Started) (H : Type) (enc : TypeId × Value → H) (F : Stop.Interp) :
    ReturnsInHanded {} Tryz.checked os 6 .any ((OpenSpec.ofChange Rows.textLinesSpec).preRow enc Tryz.prog Tryz.f6 Rows.textLinesRow.domain false Rows.textLinesRow.laid) (((OpenSpec.ofChange Rows.textLinesSpec).at F).post enc Tryz.prog Tryz.f6 false true false false) := by
  refine returnsInHanded_of_row (C := Tryz.checked) (s := (OpenSpec.ofChange Rows.textLinesSpec)) own started (by kernel_rfl) Tryz.func6
    (witness_row_at (enc := enc) (C := Tryz.checked) false (textLinesW0 os) #[.agg #[.slice none 0 0, .slice none 0 0]] (World.layVars_os _ _ _) (by kernel_rfl) (by kernel_rfl) (by kernel_rfl)
      (OpenSpec.preRow_of_cond 8 (x := ([.agg [.nil, .nil]], [], [])) (by kernel_rfl) (by kernel_rfl) (fun k hk => by cases hk) (by kernel_rfl) (textLines_met os))) ?_
  intro W base args ds gs before hval hW _ HKU _ hL HSH _
  exact textLines_contract H enc W base args ds gs before hval hW hL HSH

theorem textLines_said : Rows.TextLinesSaid :=
  OpenClaim.holds_of_cond 6 Tryz.f6 rfl rfl rfl rfl rfl rfl rfl ⟨rfl, rfl, rfl, rfl, rfl⟩ rfl rfl rfl rfl rfl (by kernel_rfl) Tryz.func6 (by kernel_rfl)
    (of_decide_eq_true (by kernel_rfl)) (by unfold Func.isWrapper; first | (rw [if_pos (by decide +kernel)]; kernel_rfl) | (rw [if_neg (by decide +kernel)]; exact ⟨rfl, rfl⟩))
    (fun os started H enc _ F => by rw [OpenClaim.pre_eq_preRow]; exact textLines_lifted os started H enc F)

theorem textLines_plain (f : FuncId) (fn : Func) (hf : Tryz.pinned.checked.prog.funcNamed "vennhouse/vennlaw4.TextLines" = some f) (hfn : Tryz.pinned.checked.prog.funcs[f]? = some fn) :
    true = Tryz.pinned.checked.prog.looks [] ∧ ∀ (j : Nat) t, fn.params[j]? = some t → Tryz.pinned.checked.prog.wantsStandIn t = false := by
  obtain rfl : f = 6 := Option.some.inj ((show Tryz.prog.funcNamed "vennhouse/vennlaw4.TextLines" = some 6 by kernel_rfl).symm.trans hf) |>.symm
  obtain rfl : fn = Tryz.f6 := (Option.some.inj (Tryz.func6.symm.trans hfn)).symm
  refine ⟨by kernel_rfl, fun j t ht => ?_⟩
  rw [Tryz.params6] at ht
  have ht' := Array.mem_of_getElem? ht
  have hall : ∀ t ∈ (#[25] : Array TypeId), Tryz.prog.wantsStandIn t = false := fun t ht => by
    simp only [List.mem_toArray, List.mem_cons, List.not_mem_nil, or_false] at ht
    rcases ht with rfl
    all_goals kernel_rfl
  exact hall t ht'

theorem textLines_holds : Rows.TextLinesCardSaid :=
  Claim7.holds_tied_plain_at .later [] _ _ _ _ textLines_said (fun _ h => by cases h) (by kernel_rfl) (fun _ h => by cases h) textLines_row_tie rfl ⟨rfl, rfl⟩ (by kernel_rfl) rfl textLines_plain (by kernel_rfl)
#print axioms textLines_holds
end Go.Proofs.YtkgfelbkoffaiaaGreatDoor
