/-
  PROVED: vennlaw3.LogKeeps answers true, at any number, atoms, and lists of numbers. No condition beyond the card's own list.
-/
import Derived.Test.YtjnjgcibhjdmdaaGreatDoorLogKeepsW
import Derived.Test.YtjnjgcibhjdmdaaGreatDoorOpenAtoms
import Derived.Test.YtjnjgcibhjdmdaaGreatDoorTabL
import Derived.OpenShut
namespace Go.Proofs.YtjnjgcibhjdmdaaGreatDoor
open Go.ChangeShapes Go.WideShapes Go.ChangeAt Go.RowKit

set_option maxRecDepth 100000 in
theorem logKeeps_contract (H : Type) (enc : TypeId × Value → H) (W : World) (base : Nat) (args : Array Value) (ds gs : List (DataW H)) (before : List MemPlace)
    (hval : ∀ (j : Nat) t v, Tryz.f4.params[j]? = some t → args[j]? = some v → Value.okWide Tryz.prog W .any base t v)
    (hW : DataW.Whole enc Tryz.prog Tryz.f4.params.toList Rows.logKeepsSpec.vars false W args.toList ds gs before) (hL : laidMetH Tryz.prog Rows.logKeepsRow.laid W)
    : Calls Tryz.prog 4 args W fun e W' => ∃ v, e = .returned v ∧ Rows.logKeepsSpec.post enc Tryz.prog Tryz.f4 false true false false W args v W' := by
  have hW' := hW
  obtain ⟨p, q, hA0, hV, rfl, hfz, hnd⟩ := hW
  have hA : DataW.TrodAll enc Tryz.prog W 0 (fun _ => true) true Tryz.f4.params.toList args.toList ds p := hA0
  rw [Tryz.params4] at hA hval
  obtain ⟨v0, vs0, d0, ds0, p0, q0, hargs, rfl, rfl, h0, r0⟩ := trodAll_cons hA
  obtain ⟨v1, vs1, d1, ds1, p1, q1, rfl, rfl, rfl, h1, r1⟩ := trodAll_cons r0
  obtain ⟨v2, vs2, d2, ds2, p2, q2, rfl, rfl, rfl, h2, r2⟩ := trodAll_cons r1
  obtain ⟨v3, vs3, d3, ds3, p3, q3, rfl, rfl, rfl, h3, r3⟩ := trodAll_cons r2
  obtain ⟨v4, vs4, d4, ds4, p4, q4, rfl, rfl, rfl, h4, r4⟩ := trodAll_cons r3
  obtain ⟨v5, vs5, d5, ds5, p5, q5, rfl, rfl, rfl, h5, r5⟩ := trodAll_cons r4
  obtain ⟨rfl, rfl, rfl⟩ := trodAll_nil r5
  obtain rfl : args = #[v0, v1, v2, v3, v4, v5] := by cases args; simp_all
  obtain ⟨rfl, rfl⟩ := trodVars_none hV
  have HET : EtOk W := et_of_laid hL (by repeat (first | exact List.Mem.head _ | apply List.Mem.tail))
  have HKI : KindsOk W := kinds_of_laid hL (by repeat (first | exact List.Mem.head _ | apply List.Mem.tail))
  have HTB : TabOk W := tab_of_laid hL (by repeat (first | exact List.Mem.head _ | apply List.Mem.tail))
  obtain ⟨u, rfl, rfl, rfl, wu⟩ := open_int Tryz.underlying3 (hval 0 3 v0 rfl rfl) h0
  obtain ⟨l, Hl⟩ := open_atoms (hval 1 22 v1 rfl rfl) h1
  obtain ⟨denied, Hdenied, wfdenied⟩ := open_isInts Tryz.underlying30 Tryz.underlying3 (by kernel_rfl) (hval 2 30 v2 rfl rfl) h2
  obtain ⟨syncs, Hsyncs, wfsyncs⟩ := open_isInts Tryz.underlying30 Tryz.underlying3 (by kernel_rfl) (hval 3 30 v3 rfl rfl) h3
  obtain ⟨fails, Hfails, wffails⟩ := open_isInts Tryz.underlying30 Tryz.underlying3 (by kernel_rfl) (hval 4 30 v4 rfl rfl) h4
  obtain ⟨keeps, Hkeeps, wfkeeps⟩ := open_isInts Tryz.underlying30 Tryz.underlying3 (by kernel_rfl) (hval 5 30 v5 rfl rfl) h5
  clear hA0
  refine (logKeeps_walk v1 v2 v3 v4 v5 l denied syncs fails keeps u W Hl Hdenied Hsyncs Hfails Hkeeps (fun n hn => (bounds_i64 (wffails n hn)).2) HKI HET HTB).mono fun e W' ⟨he, hw⟩ => ?_
  subst he
  exact ⟨_, rfl, law_post laidOut Tryz.underlying4 (by kernel_rfl) rfl (by kernel_rfl) hW' rfl hw⟩

theorem logKeeps_met (os : Os) : laidMetH Tryz.prog Rows.logKeepsRow.laid ((World.doorLaid Tryz.prog 400 os).forCall (fun _ _ => 0) ⟨#[], #[.int .i64 0, .slice none 0 0, .slice none 0 0, .slice none 0 0, .slice none 0 0, .slice none 0 0], []⟩).memory :=
  laidMetH_of_parts3 (fuel := 8) (laidMet_of_run' 8 (by kernel_rfl) (by kernel_rfl)) (by kernel_rfl) (by kernel_rfl)

set_option maxRecDepth 100000 in
theorem logKeeps_lifted (os : Os) (started : os.Started) (H : Type) (enc : TypeId × Value → H) (F : Stop.Interp) :
    ReturnsInHanded {} Tryz.checked os 4 .any ((OpenSpec.ofChange Rows.logKeepsSpec).preRow enc Tryz.prog Tryz.f4 Rows.logKeepsRow.domain false Rows.logKeepsRow.laid) (((OpenSpec.ofChange Rows.logKeepsSpec).at F).post enc Tryz.prog Tryz.f4 false true false false) := by
  refine returnsInHanded_of_row (C := Tryz.checked) (s := (OpenSpec.ofChange Rows.logKeepsSpec)) own started (by kernel_rfl) Tryz.func4
    (witness_row_at (enc := enc) (C := Tryz.checked) false (World.doorLaid Tryz.prog 400 os) #[.int .i64 0, .slice none 0 0, .slice none 0 0, .slice none 0 0, .slice none 0 0, .slice none 0 0] rfl (by kernel_rfl) (by kernel_rfl) (by kernel_rfl)
      (OpenSpec.preRow_of_cond 8 (x := ([.lit (.int .i64 0), .nil, .nil, .nil, .nil, .nil], [], [])) (by kernel_rfl) (by kernel_rfl) (fun k hk => by cases hk) (by kernel_rfl) (logKeeps_met os))) ?_
  intro W base args ds gs before hval hW _ HKU _ hL _ _
  exact logKeeps_contract H enc W base args ds gs before hval hW hL

theorem logKeeps_said : Rows.LogKeepsSaid :=
  OpenClaim.holds_of_cond 4 Tryz.f4 rfl rfl rfl rfl rfl rfl rfl ⟨rfl, rfl, rfl, rfl, rfl⟩ rfl rfl rfl rfl rfl (by kernel_rfl) Tryz.func4 (by kernel_rfl)
    (of_decide_eq_true (by kernel_rfl)) (by unfold Func.isWrapper; first | (rw [if_pos (by decide +kernel)]; kernel_rfl) | (rw [if_neg (by decide +kernel)]; exact ⟨rfl, rfl⟩))
    (fun os started H enc _ F => by rw [OpenClaim.pre_eq_preRow]; exact logKeeps_lifted os started H enc F)

theorem logKeeps_plain (f : FuncId) (fn : Func) (hf : Tryz.pinned.checked.prog.funcNamed "vennhouse/vennlaw3.LogKeeps" = some f) (hfn : Tryz.pinned.checked.prog.funcs[f]? = some fn) :
    true = Tryz.pinned.checked.prog.looks [] ∧ ∀ (j : Nat) t, fn.params[j]? = some t → Tryz.pinned.checked.prog.wantsStandIn t = false := by
  obtain rfl : f = 4 := Option.some.inj ((show Tryz.prog.funcNamed "vennhouse/vennlaw3.LogKeeps" = some 4 by kernel_rfl).symm.trans hf) |>.symm
  obtain rfl : fn = Tryz.f4 := (Option.some.inj (Tryz.func4.symm.trans hfn)).symm
  refine ⟨by kernel_rfl, fun j t ht => ?_⟩
  rw [Tryz.params4] at ht
  have ht' := Array.mem_of_getElem? ht
  have hall : ∀ t ∈ (#[3, 22, 30, 30, 30, 30] : Array TypeId), Tryz.prog.wantsStandIn t = false := fun t ht => by
    simp only [List.mem_toArray, List.mem_cons, List.not_mem_nil, or_false] at ht
    rcases ht with rfl | rfl | rfl | rfl | rfl | rfl
    all_goals kernel_rfl
  exact hall t ht'

theorem logKeeps_holds : Rows.LogKeepsCardSaid :=
  Claim7.holds_tied_plain_at .later [] _ _ _ _ logKeeps_said (fun _ h => by cases h) (by kernel_rfl) (fun _ h => by cases h) logKeeps_row_tie rfl ⟨rfl, rfl⟩ (by kernel_rfl) rfl logKeeps_plain (by kernel_rfl)
#print axioms logKeeps_holds
end Go.Proofs.YtjnjgcibhjdmdaaGreatDoor
