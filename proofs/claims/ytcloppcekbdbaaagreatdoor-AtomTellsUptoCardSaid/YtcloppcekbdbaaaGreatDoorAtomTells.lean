/-
  PROVED: vennlaw1.AtomTells answers true, where what it reads is of bulk at most the row's bound. No other condition beyond the card's own list.
-/
import Derived.Test.YtcloppcekbdbaaaGreatDoorAtomTellsW
import Derived.Test.YtcloppcekbdbaaaGreatDoorTabL
import Derived.Lay
import Derived.JoinedCond
import Derived.ChangeMaps5
namespace Go.Proofs.YtcloppcekbdbaaaGreatDoor
open Go.ChangeShapes Go.WideShapes Go.ChangeAt Go.RowKit

theorem bulk_part {H : Type} {d : DataW H} {l : List (DataW H)} (h : d ∈ l) : Rows.uptoBulk d ≤ Rows.uptoBulkAll l := by
  induction l with
  | nil => cases h
  | cons x r ih =>
    simp only [Rows.uptoBulkAll]
    rcases List.mem_cons.1 h with e | e
    · subst e; omega
    · have := ih e; omega
theorem bulk_string {H : Type} {l : List (DataW H)} {s : ByteArray} (hk : Rows.uptoSmall H l = true) (h : DataW.lit (.string s.data.toList) ∈ l) : s.size < 4294967281 := by
  have h1 := bulk_part h
  have h2 := of_decide_eq_true hk
  simp only [Rows.uptoBulk] at h1
  have h3 : s.data.toList.length = s.size := by simp
  omega

set_option maxRecDepth 100000 in
theorem atomTells_contract (H : Type) (enc : TypeId × Value → H) (W : World) (base : Nat) (args : Array Value) (ds gs : List (DataW H)) (before : List MemPlace)
    (hval : ∀ (j : Nat) t v, Tryz.f7.params[j]? = some t → args[j]? = some v → Value.okWide Tryz.prog W .any base t v)
    (hW : DataW.Whole enc Tryz.prog Tryz.f7.params.toList Rows.atomTellsSpec.vars false W args.toList ds gs before) (hL : laidMetH Tryz.prog Rows.atomTellsUptoRow.laid W)
    (HKU : ∀ k, (Rows.OpenSpec.upto Rows.atomTellsSpec).cond = some k → k H (ds ++ gs) = true)
    (HSH : W.ShapedOpen Tryz.prog)
    : Calls Tryz.prog 7 args W fun e W' => ∃ v, e = .returned v ∧ Rows.atomTellsSpec.post enc Tryz.prog Tryz.f7 false true false false W args v W' := by
  have hW' := hW
  obtain ⟨p, q, hA0, hV, rfl, hfz, hnd⟩ := hW
  have hA : DataW.TrodAll enc Tryz.prog W 0 (fun _ => true) true Tryz.f7.params.toList args.toList ds p := hA0
  rw [Tryz.params7] at hA hval
  obtain ⟨v0, vs0, d0, ds0, p0, q0, hargs, rfl, rfl, h0, r0⟩ := trodAll_cons hA
  obtain ⟨v1, vs1, d1, ds1, p1, q1, rfl, rfl, rfl, h1, r1⟩ := trodAll_cons r0
  obtain ⟨v2, vs2, d2, ds2, p2, q2, rfl, rfl, rfl, h2, r2⟩ := trodAll_cons r1
  obtain ⟨rfl, rfl, rfl⟩ := trodAll_nil r2
  obtain rfl : args = #[v0, v1, v2] := by cases args; simp_all
  obtain ⟨rfl, rfl⟩ := trodVars_none hV
  have HET : EtOk W := et_of_laid hL (by repeat (first | exact List.Mem.head _ | apply List.Mem.tail))
  have HKI : KindsOk W := kinds_of_laid hL (by repeat (first | exact List.Mem.head _ | apply List.Mem.tail))
  have HTB : TabOk W := tab_of_laid hL (by repeat (first | exact List.Mem.head _ | apply List.Mem.tail))
  have HER : ErrsOk W := errs_of_laid hL (by repeat (first | exact List.Mem.head _ | apply List.Mem.tail)) (by repeat (first | exact List.Mem.head _ | apply List.Mem.tail))
  have HMX : MaxOk W := max_of_shaped HSH
  have HK := HKU _ rfl
  obtain ⟨yw, yn, ys, yt, ysv, ytv, rfl, yhs, yht, yww, ywn⟩ := open_atom (hval 0 32 v0 rfl rfl) h0
  obtain ⟨xth, xa, xb, xc, rfl, xwf⟩ := open_world (hval 1 45 v1 rfl rfl) h1
  obtain ⟨s, rfl, rfl, rfl, ws⟩ := Go.ChangeMaps.open_string Tryz.underlying9 (hval 2 9 v2 rfl rfl) h2
  clear hA0
  refine (atomTells_walk yw yn ysv ytv ys yt xth xa xb xc s W yhs yht (bulk_string HK (by simp)) HKI HET HTB HER HMX).mono fun e W' ⟨he, hw⟩ => ?_
  subst he
  exact ⟨_, rfl, law_post laidOut Tryz.underlying4 (by kernel_rfl) rfl (by kernel_rfl) hW' rfl hw⟩

/-- The witness's start: as the door's run leaves it, the great table laid. -/
noncomputable def atomTellsW0 (os : Os) : World := (World.doorLaid Tryz.prog 400 os).layVars Tryz.prog [("unicode/utf8.first", Go.Pinned.utf8First)]

noncomputable def atomTellsB (os : Os) : List Nat := (List.range (World.doorLaid Tryz.prog 400 os).heap.size).filter fun b => b != (Tryz.prog.globalNamed "unicode/utf8.first").getD 0

theorem atomTells_met (os : Os) : laidMetH Tryz.prog Rows.atomTellsUptoRow.laid ((atomTellsW0 os).forCall (fun _ _ => 0) ⟨#[], #[.agg #[.int .i64 0, .slice none 0 0, .slice none 0 0, .int .i64 0], .agg #[.int .i64 0, .int .i64 0, .int .i64 0, .int .i64 0], .string ⟨#[]⟩], []⟩).memory :=
  laidMetH_of_parts3 (fuel := 8) (laidMet_layVars (w0 := World.doorLaid Tryz.prog 400 os) ["unicode/utf8.first"] (atomTellsB os) (by kernel_rfl) (by kernel_rfl) (by kernel_rfl)
    (LaidIn.of_run (atomTellsB os) 8 (by kernel_rfl) (by kernel_rfl) (by kernel_rfl) (by kernel_rfl))) (by kernel_rfl) (by kernel_rfl)

set_option maxRecDepth 100000 in
theorem atomTells_lifted (os : Os) (started : os.Started) (H : Type) (enc : TypeId × Value → H) (F : Stop.Interp) :
    ReturnsInHanded {} Tryz.checked os 7 .any ((Rows.OpenSpec.upto Rows.atomTellsSpec).preRow enc Tryz.prog Tryz.f7 Rows.atomTellsUptoRow.domain false Rows.atomTellsUptoRow.laid) (((Rows.OpenSpec.upto Rows.atomTellsSpec).at F).post enc Tryz.prog Tryz.f7 false true false false) := by
  refine returnsInHanded_of_row (C := Tryz.checked) (s := (Rows.OpenSpec.upto Rows.atomTellsSpec)) own started (by kernel_rfl) Tryz.func7
    (witness_row_at (enc := enc) (C := Tryz.checked) false (atomTellsW0 os) #[.agg #[.int .i64 0, .slice none 0 0, .slice none 0 0, .int .i64 0], .agg #[.int .i64 0, .int .i64 0, .int .i64 0, .int .i64 0], .string ⟨#[]⟩] (World.layVars_os _ _ _) (by kernel_rfl) (by kernel_rfl) (by kernel_rfl)
      (OpenSpec.preRow_of_cond 8 (x := ([.agg [.lit (.int .i64 0), .nil, .nil, .lit (.int .i64 0)], .agg [.lit (.int .i64 0), .agg [.lit (.int .i64 0), .lit (.int .i64 0), .lit (.int .i64 0)]], .lit (.string [])], [], [])) (by kernel_rfl) (by kernel_rfl) (fun k hk => by cases hk; kernel_rfl) (by kernel_rfl) (atomTells_met os))) ?_
  intro W base args ds gs before hval hW _ HKU _ hL HSH _
  exact atomTells_contract H enc W base args ds gs before hval hW hL HKU HSH

theorem atomTells_said : Rows.AtomTellsUptoSaid :=
  OpenClaim.holds_of_cond 7 Tryz.f7 rfl rfl rfl rfl rfl rfl rfl ⟨rfl, rfl, rfl, rfl, rfl⟩ rfl rfl rfl rfl rfl (by kernel_rfl) Tryz.func7 (by kernel_rfl)
    (of_decide_eq_true (by kernel_rfl)) (by unfold Func.isWrapper; first | (rw [if_pos (by decide +kernel)]; kernel_rfl) | (rw [if_neg (by decide +kernel)]; exact ⟨rfl, rfl⟩))
    (fun os started H enc _ F => by rw [OpenClaim.pre_eq_preRow]; exact atomTells_lifted os started H enc F)

theorem atomTells_plain (f : FuncId) (fn : Func) (hf : Tryz.pinned.checked.prog.funcNamed "vennhouse/vennlaw1.AtomTells" = some f) (hfn : Tryz.pinned.checked.prog.funcs[f]? = some fn) :
    true = Tryz.pinned.checked.prog.looks [] ∧ ∀ (j : Nat) t, fn.params[j]? = some t → Tryz.pinned.checked.prog.wantsStandIn t = false := by
  obtain rfl : f = 7 := Option.some.inj ((show Tryz.prog.funcNamed "vennhouse/vennlaw1.AtomTells" = some 7 by kernel_rfl).symm.trans hf) |>.symm
  obtain rfl : fn = Tryz.f7 := (Option.some.inj (Tryz.func7.symm.trans hfn)).symm
  refine ⟨by kernel_rfl, fun j t ht => ?_⟩
  rw [Tryz.params7] at ht
  have ht' := Array.mem_of_getElem? ht
  have hall : ∀ t ∈ (#[32, 45, 9] : Array TypeId), Tryz.prog.wantsStandIn t = false := fun t ht => by
    simp only [List.mem_toArray, List.mem_cons, List.not_mem_nil, or_false] at ht
    rcases ht with rfl | rfl | rfl
    all_goals kernel_rfl
  exact hall t ht'

theorem atomTells_holds : Rows.AtomTellsUptoCardSaid :=
  Claim7.holds_tied_plain_at .later [] _ _ _ _ atomTells_said (fun _ h => by cases h) (by kernel_rfl) (fun _ h => by cases h) atomTellsUpto_row_tie rfl ⟨rfl, rfl⟩ (by kernel_rfl) rfl atomTells_plain (by kernel_rfl)
#print axioms atomTells_holds
end Go.Proofs.YtcloppcekbdbaaaGreatDoor
