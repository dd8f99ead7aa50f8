/-
  PROVED: vennlaw2.TurnTells answers true, at any formula, names, world and numbers. No condition beyond the card's own list.
-/
import Derived.Test.YtlpfbdejiifbpaaDoorTurnTellsW
namespace Go.Proofs.YtlpfbdejiifbpaaDoor
open Go.ChangeShapes Go.WideShapes Go.ChangeAt Go.RowKit Go.Deep

theorem open_three_of {H : Type} {enc : TypeId × Value → H} {P : Program} {w : World} {base b0 : Nat} {spare : Nat → Bool} {held : Bool} {r : Reach} {v : Value} {d : DataW H} {ps : List MemPlace} {ta ti : TypeId} (hta : P.underlying ta = some (.array 3 ti)) (hti : P.underlying ti = some (.int .i64)) (c1 : P.cellsOf ti = 1) (c3 : P.cellsOf ta = 3)
    (hok : Value.okWide P w r b0 ta v) (h : DataW.Trod enc P w base spare held ta v d ps) :
    ∃ n0 n1 n2 : Int, v = .agg #[.int .i64 n0, .int .i64 n1, .int .i64 n2] ∧ (∀ x ∈ [n0, n1, n2], (Lit.int .i64 x).wf = true) := by
  obtain ⟨cs, rfl, hsz⟩ := okWide_array hta hok
  obtain ⟨fuel, hf⟩ := h
  obtain ⟨l, hl, e1, w1⟩ := trod_intsArr hta hti c1 c3 hf
  obtain ⟨xs⟩ := cs
  match l, hl, e1, w1 with
  | [n0, n1, n2], _, e1, w1 =>
    refine ⟨n0, n1, n2, ?_, w1⟩
    simp [Value.cells] at e1
    simp [e1]
set_option maxRecDepth 100000 in
theorem open_three {H : Type} {enc : TypeId × Value → H} {w : World} {base b0 : Nat} {spare : Nat → Bool} {held : Bool} {r : Reach} {v : Value} {d : DataW H} {ps : List MemPlace} (hok : Value.okWide Tryd.prog w r b0 26 v) (h : DataW.Trod enc Tryd.prog w base spare held 26 v d ps) :
    ∃ n0 n1 n2 : Int, v = .agg #[.int .i64 n0, .int .i64 n1, .int .i64 n2] ∧ (∀ x ∈ [n0, n1, n2], (Lit.int .i64 x).wf = true) :=
  open_three_of Tryd.underlying26 Tryd.underlying3 cellsInt cells3 hok h
end Go.Proofs.YtlpfbdejiifbpaaDoor

namespace Go.Proofs.YtlpfbdejiifbpaaDoor
open Go.ChangeShapes Go.WideShapes Go.ChangeAt Go.RowKit

set_option maxRecDepth 100000 in
theorem turnTells_contract (H : Type) (enc : TypeId × Value → H) (W : World) (base : Nat) (args : Array Value) (ds gs : List (DataW H)) (before : List MemPlace)
    (hval : ∀ (j : Nat) t v, Tryd.f3.params[j]? = some t → args[j]? = some v → Value.okWide Tryd.prog W .any base t v)
    (hW : DataW.Whole enc Tryd.prog Tryd.f3.params.toList Rows.turnTellsSpec.vars false W args.toList ds gs before) (hL : laidMetH Tryd.prog Rows.turnTellsRow.laid W)
    : Calls Tryd.prog 3 args W fun e W' => ∃ v, e = .returned v ∧ Rows.turnTellsSpec.post enc Tryd.prog Tryd.f3 false true false false W args v W' := by
  have hW' := hW
  obtain ⟨p, q, hA0, hV, rfl, hfz, hnd⟩ := hW
  have hA : DataW.TrodAll enc Tryd.prog W 0 (fun _ => true) true Tryd.f3.params.toList args.toList ds p := hA0
  rw [Tryd.params3] at hA hval
  obtain ⟨v0, vs0, d0, ds0, p0, q0, hargs, rfl, rfl, h0, r0⟩ := trodAll_cons hA
  obtain ⟨v1, vs1, d1, ds1, p1, q1, rfl, rfl, rfl, h1, r1⟩ := trodAll_cons r0
  obtain ⟨v2, vs2, d2, ds2, p2, q2, rfl, rfl, rfl, h2, r2⟩ := trodAll_cons r1
  obtain ⟨v3, vs3, d3, ds3, p3, q3, rfl, rfl, rfl, h3, r3⟩ := trodAll_cons r2
  obtain ⟨rfl, rfl, rfl⟩ := trodAll_nil r3
  obtain rfl : args = #[v0, v1, v2, v3] := by cases args; simp_all
  obtain ⟨rfl, rfl⟩ := trodVars_none hV
  have HET : EtOk W := et_of_laid hL (by repeat (first | exact List.Mem.head _ | apply List.Mem.tail))
  have HKI : KindsOk W := kinds_of_laid hL (by repeat (first | exact List.Mem.head _ | apply List.Mem.tail))
  obtain ⟨fl, fc, fa, fv, rfl, fha, fhc⟩ := open_form (hval 0 25 v0 rfl rfl) h0
  obtain ⟨p0, p1, p2, rfl, pwf⟩ := open_three (hval 1 26 v1 rfl rfl) h1
  obtain ⟨yth, ya, yb, yc, rfl, ywf⟩ := open_world (hval 2 28 v2 rfl rfl) h2
  obtain ⟨q, Hq, wfq⟩ := open_isInts Tryd.underlying23 Tryd.underlying3 (by kernel_rfl) (hval 3 23 v3 rfl rfl) h3
  clear hA0
  refine (turnTells_walk fa fv v3 fl fc q p0 p1 p2 yth ya yb yc W fha fhc Hq HKI HET).mono fun e W' ⟨he, hw⟩ => ?_
  subst he
  exact ⟨_, rfl, law_post laidOut Tryd.underlying4 (by kernel_rfl) rfl (by kernel_rfl) hW' rfl hw⟩

theorem turnTells_met (os : Os) : laidMetH Tryd.prog Rows.turnTellsRow.laid ((World.doorLaid Tryd.prog 400 os).forCall (fun _ _ => 0) ⟨#[], #[.agg #[.slice none 0 0, .slice none 0 0], .agg #[.int .i64 0, .int .i64 0, .int .i64 0], .agg #[.int .i64 0, .int .i64 0, .int .i64 0, .int .i64 0], .slice none 0 0], []⟩).memory :=
  laidMetH_of_parts3 (fuel := 8) (laidMet_of_run' 8 (by kernel_rfl) (by kernel_rfl)) (by kernel_rfl) (by kernel_rfl)

set_option maxRecDepth 100000 in
theorem turnTells_lifted (os : Os) (started : os.Started) (H : Type) (enc : TypeId × Value → H) (F : Stop.Interp) :
    ReturnsInHanded {} Tryd.checked os 3 .any ((OpenSpec.ofChange Rows.turnTellsSpec).preRow enc Tryd.prog Tryd.f3 Rows.turnTellsRow.domain false Rows.turnTellsRow.laid) (((OpenSpec.ofChange Rows.turnTellsSpec).at F).post enc Tryd.prog Tryd.f3 false true false false) := by
  refine returnsInHanded_of_row (C := Tryd.checked) (s := (OpenSpec.ofChange Rows.turnTellsSpec)) own started (by kernel_rfl) Tryd.func3
    (witness_row_at (enc := enc) (C := Tryd.checked) false (World.doorLaid Tryd.prog 400 os) #[.agg #[.slice none 0 0, .slice none 0 0], .agg #[.int .i64 0, .int .i64 0, .int .i64 0], .agg #[.int .i64 0, .int .i64 0, .int .i64 0, .int .i64 0], .slice none 0 0] rfl (by kernel_rfl) (by kernel_rfl) (by kernel_rfl)
      (OpenSpec.preRow_of_cond 8 (x := ([.agg [.nil, .nil], .agg [.lit (.int .i64 0), .lit (.int .i64 0), .lit (.int .i64 0)], .agg [.lit (.int .i64 0), .agg [.lit (.int .i64 0), .lit (.int .i64 0), .lit (.int .i64 0)]], .nil], [], [])) (by kernel_rfl) (by kernel_rfl) (fun k hk => by cases hk) (by kernel_rfl) (turnTells_met os))) ?_
  intro W base args ds gs before hval hW _ HKU _ hL _ _
  exact turnTells_contract H enc W base args ds gs before hval hW hL

theorem turnTells_said : Rows.TurnTellsSaid :=
  OpenClaim.holds_of_cond 3 Tryd.f3 rfl rfl rfl rfl rfl rfl rfl ⟨rfl, rfl, rfl, rfl, rfl⟩ rfl rfl rfl rfl rfl (by kernel_rfl) Tryd.func3 (by kernel_rfl)
    (of_decide_eq_true (by kernel_rfl)) (by unfold Func.isWrapper; first | (rw [if_pos (by decide +kernel)]; kernel_rfl) | (rw [if_neg (by decide +kernel)]; exact ⟨rfl, rfl⟩))
    (fun os started H enc _ F => by rw [OpenClaim.pre_eq_preRow]; exact turnTells_lifted os started H enc F)

theorem turnTells_plain (f : FuncId) (fn : Func) (hf : Tryd.pinned.checked.prog.funcNamed "vennhouse/vennlaw2.TurnTells" = some f) (hfn : Tryd.pinned.checked.prog.funcs[f]? = some fn) :
    true = Tryd.pinned.checked.prog.looks [] ∧ ∀ (j : Nat) t, fn.params[j]? = some t → Tryd.pinned.checked.prog.wantsStandIn t = false := by
  obtain rfl : f = 3 := Option.some.inj ((show Tryd.prog.funcNamed "vennhouse/vennlaw2.TurnTells" = some 3 by kernel_rfl).symm.trans hf) |>.symm
  obtain rfl : fn = Tryd.f3 := (Option.some.inj (Tryd.func3.symm.trans hfn)).symm
  refine ⟨by kernel_rfl, fun j t ht => ?_⟩
  rw [Tryd.params3] at ht
  have ht' := Array.mem_of_getElem? ht
  have hall : ∀ t ∈ (#[25, 26, 28, 23] : Array TypeId), Tryd.prog.wantsStandIn t = false := fun t ht => by
    simp only [List.mem_toArray, List.mem_cons, List.not_mem_nil, or_false] at ht
    rcases ht with rfl | rfl | rfl | rfl
    all_goals kernel_rfl
  exact hall t ht'

theorem turnTells_holds : Rows.TurnTellsCardSaid :=
  Claim7.holds_tied_plain_at .later [] _ _ _ _ turnTells_said (fun _ h => by cases h) (by kernel_rfl) (fun _ h => by cases h) turnTells_row_tie rfl ⟨rfl, rfl⟩ (by kernel_rfl) rfl turnTells_plain (by kernel_rfl)
#print axioms turnTells_holds
end Go.Proofs.YtlpfbdejiifbpaaDoor
