/-
  PROVED: vennlaw1.AtomBack answers true, where what it reads is of bulk at most the row's bound. No other condition beyond the card's own list.
-/
import Derived.Test.YtcloppcekbdbaaaDoorAtomBackW
import Derived.Test.YtcloppcekbdbaaaDoorTabL
import Derived.Lay
import Derived.JoinedCond
import Derived.ChangeMaps5
namespace Go.Proofs.YtcloppcekbdbaaaDoor
open Go.ChangeShapes Go.WideShapes Go.ChangeAt Go.RowKit

theorem bulk_part {H : Type} {d : DataW H} {l : List (DataW H)} (h : d ∈ l) : Rows.uptoBulk d ≤ Rows.uptoBulkAll l := by
  induction l with
  | nil => cases h
  | cons x r ih =>
    simp only [Rows.uptoBulkAll]
    rcases List.mem_cons.1 h with e | e
    · subst e; omega
    · have := ih e; omega
theorem bulk_string {H : Type} {l : List (DataW H)} {s : ByteArray} (hk : Rows.uptoSmall H l = true) (h : DataW.lit (.string s.data.toList) ∈ l) : s.size < 4294967281 := by
  have h1 := bulk_part h
  have h2 := of_decide_eq_true hk
  simp only [Rows.uptoBulk] at h1
  have h3 : s.data.toList.length = s.size := by simp
  omega

set_option maxRecDepth 100000 in
theorem atomBack_contract (H : Type) (enc : TypeId × Value → H) (W : World) (base : Nat) (args : Array Value) (ds gs : List (DataW H)) (before : List MemPlace)
    (hval : ∀ (j : Nat) t v, Tryd.f4.params[j]? = some t → args[j]? = some v → Value.okWide Tryd.prog W .any base t v)
    (hW : DataW.Whole enc Tryd.prog Tryd.f4.params.toList Rows.atomBackSpec.vars false W args.toList ds gs before) (hL : laidMetH Tryd.prog Rows.atomBackUptoRow.laid W)
    (HKU : ∀ k, (Rows.OpenSpec.upto Rows.atomBackSpec).cond = some k → k H (ds ++ gs) = true)
    (HSH : W.ShapedOpen Tryd.prog)
    : Calls Tryd.prog 4 args W fun e W' => ∃ v, e = .returned v ∧ Rows.atomBackSpec.post enc Tryd.prog Tryd.f4 false true false false W args v W' := by
  have hW' := hW
  obtain ⟨p, q, hA0, hV, rfl, hfz, hnd⟩ := hW
  have hA : DataW.TrodAll enc Tryd.prog W 0 (fun _ => true) true Tryd.f4.params.toList args.toList ds p := hA0
  rw [Tryd.params4] at hA hval
  obtain ⟨v0, vs0, d0, ds0, p0, q0, hargs, rfl, rfl, h0, r0⟩ := trodAll_cons hA
  obtain ⟨v1, vs1, d1, ds1, p1, q1, rfl, rfl, rfl, h1, r1⟩ := trodAll_cons r0
  obtain ⟨v2, vs2, d2, ds2, p2, q2, rfl, rfl, rfl, h2, r2⟩ := trodAll_cons r1
  obtain ⟨v3, vs3, d3, ds3, p3, q3, rfl, rfl, rfl, h3, r3⟩ := trodAll_cons r2
  obtain ⟨v4, vs4, d4, ds4, p4, q4, rfl, rfl, rfl, h4, r4⟩ := trodAll_cons r3
  obtain ⟨rfl, rfl, rfl⟩ := trodAll_nil r4
  obtain rfl : args = #[v0, v1, v2, v3, v4] := by cases args; simp_all
  obtain ⟨rfl, rfl⟩ := trodVars_none hV
  have HKI : KindsOk W := kinds_of_laid hL (by repeat (first | exact List.Mem.head _ | apply List.Mem.tail))
  have HTB : TabOk W := tab_of_laid hL (by repeat (first | exact List.Mem.head _ | apply List.Mem.tail))
  have HER : ErrsOk W := errs_of_laid hL (by repeat (first | exact List.Mem.head _ | apply List.Mem.tail)) (by repeat (first | exact List.Mem.head _ | apply List.Mem.tail))
  have HMX : MaxOk W := max_of_shaped HSH
  have HK := HKU _ rfl
  obtain ⟨yw, yn, ys, yt, ysv, ytv, rfl, yhs, yht, yww, ywn⟩ := open_atom (hval 0 31 v0 rfl rfl) h0
  obtain ⟨s, rfl, rfl, rfl, ws⟩ := Go.ChangeMaps.open_string Tryd.underlying9 (hval 1 9 v1 rfl rfl) h1
  obtain ⟨xth, xa, xb, xc, rfl, xwf⟩ := open_world (hval 2 39 v2 rfl rfl) h2
  obtain ⟨p, Hp, wfp⟩ := open_isInts Tryd.underlying23 Tryd.underlying3 (by kernel_rfl) (hval 3 23 v3 rfl rfl) h3
  obtain ⟨q, Hq, wfq⟩ := open_isInts Tryd.underlying23 Tryd.underlying3 (by kernel_rfl) (hval 4 23 v4 rfl rfl) h4
  clear hA0
  refine (atomBack_walk yw yn ysv ytv v3 v4 ys yt p q s xth xa xb xc W yhs yht Hp Hq (bulk_string HK (by simp)) HKI HTB HER HMX).mono fun e W' ⟨he, hw⟩ => ?_
  subst he
  exact ⟨_, rfl, law_post laidOut Tryd.underlying4 (by kernel_rfl) rfl (by kernel_rfl) hW' rfl hw⟩

/-- The witness's start: as the door's run leaves it, the great table laid. -/
noncomputable def atomBackW0 (os : Os) : World := (World.doorLaid Tryd.prog 400 os).layVars Tryd.prog [("unicode/utf8.first", Go.Pinned.utf8First)]

noncomputable def atomBackB (os : Os) : List Nat := (List.range (World.doorLaid Tryd.prog 400 os).heap.size).filter fun b => b != (Tryd.prog.globalNamed "unicode/utf8.first").getD 0

theorem atomBack_met (os : Os) : laidMetH Tryd.prog Rows.atomBackUptoRow.laid ((atomBackW0 os).forCall (fun _ _ => 0) ⟨#[], #[.agg #[.int .i64 0, .slice none 0 0, .slice none 0 0, .int .i64 0], .string ⟨#[]⟩, .agg #[.int .i64 0, .int .i64 0, .int .i64 0, .int .i64 0], .slice none 0 0, .slice none 0 0], []⟩).memory :=
  laidMetH_of_parts3 (fuel := 8) (laidMet_layVars (w0 := World.doorLaid Tryd.prog 400 os) ["unicode/utf8.first"] (atomBackB os) (by kernel_rfl) (by kernel_rfl) (by kernel_rfl)
    (LaidIn.of_run (atomBackB os) 8 (by kernel_rfl) (by kernel_rfl) (by kernel_rfl) (by kernel_rfl))) (by kernel_rfl) (by kernel_rfl)

set_option maxRecDepth 100000 in
theorem atomBack_lifted (os : Os) (started : os.Started) (H : Type) (enc : TypeId × Value → H) (F : Stop.Interp) :
    ReturnsInHanded {} Tryd.checked os 4 .any ((Rows.OpenSpec.upto Rows.atomBackSpec).preRow enc Tryd.prog Tryd.f4 Rows.atomBackUptoRow.domain false Rows.atomBackUptoRow.laid) (((Rows.OpenSpec.upto Rows.atomBackSpec).at F).post enc Tryd.prog Tryd.f4 false true false false) := by
  refine returnsInHanded_of_row (C := Tryd.checked) (s := (Rows.OpenSpec.upto Rows.atomBackSpec)) own started (by kernel_rfl) Tryd.func4
    (witness_row_at (enc := enc) (C := Tryd.checked) false (atomBackW0 os) #[.agg #[.int .i64 0, .slice none 0 0, .slice none 0 0, .int .i64 0], .string ⟨#[]⟩, .agg #[.int .i64 0, .int .i64 0, .int .i64 0, .int .i64 0], .slice none 0 0, .slice none 0 0] (World.layVars_os _ _ _) (by kernel_rfl) (by kernel_rfl) (by kernel_rfl)
      (OpenSpec.preRow_of_cond 8 (x := ([.agg [.lit (.int .i64 0), .nil, .nil, .lit (.int .i64 0)], .lit (.string []), .agg [.lit (.int .i64 0), .agg [.lit (.int .i64 0), .lit (.int .i64 0), .lit (.int .i64 0)]], .nil, .nil], [], [])) (by kernel_rfl) (by kernel_rfl) (fun k hk => by cases hk; kernel_rfl) (by kernel_rfl) (atomBack_met os))) ?_
  intro W base args ds gs before hval hW _ HKU _ hL HSH _
  exact atomBack_contract H enc W base args ds gs before hval hW hL HKU HSH

theorem atomBack_said : Rows.AtomBackUptoSaid :=
  OpenClaim.holds_of_cond 4 Tryd.f4 rfl rfl rfl rfl rfl rfl rfl ⟨rfl, rfl, rfl, rfl, rfl⟩ rfl rfl rfl rfl rfl (by kernel_rfl) Tryd.func4 (by kernel_rfl)
    (of_decide_eq_true (by kernel_rfl)) (by unfold Func.isWrapper; first | (rw [if_pos (by decide +kernel)]; kernel_rfl) | (rw [if_neg (by decide +kernel)]; exact ⟨rfl, rfl⟩))
    (fun os started H enc _ F => by rw [OpenClaim.pre_eq_preRow]; exact atomBack_lifted os started H enc F)

theorem atomBack_plain (f : FuncId) (fn : Func) (hf : Tryd.pinned.checked.prog.funcNamed "vennhouse/vennlaw1.AtomBack" = some f) (hfn : Tryd.pinned.checked.prog.funcs[f]? = some fn) :
    true = Tryd.pinned.checked.prog.looks [] ∧ ∀ (j : Nat) t, fn.params[j]? = some t → Tryd.pinned.checked.prog.wantsStandIn t = false := by
  obtain rfl : f = 4 := Option.some.inj ((show Tryd.prog.funcNamed "vennhouse/vennlaw1.AtomBack" = some 4 by kernel_rfl).symm.trans hf) |>.symm
  obtain rfl : fn = Tryd.f4 := (Option.some.inj (Tryd.func4.symm.trans hfn)).symm
  refine ⟨by kernel_rfl, fun j t ht => ?_⟩
  rw [Tryd.params4] at ht
  have ht' := Array.mem_of_getElem? ht
  have hall : ∀ t ∈ (#[31, 9, 39, 23, 23] : Array TypeId), Tryd.prog.wantsStandIn t = false := fun t ht => by
    simp only [List.mem_toArray, List.mem_cons, List.not_mem_nil, or_false] at ht
    rcases ht with rfl | rfl | rfl | rfl | rfl
    all_goals kernel_rfl
  exact hall t ht'

theorem atomBack_holds : Rows.AtomBackUptoCardSaid :=
  Claim7.holds_tied_plain_at .later [] _ _ _ _ atomBack_said (fun _ h => by cases h) (by kernel_rfl) (fun _ h => by cases h) atomBackUpto_row_tie rfl ⟨rfl, rfl⟩ (by kernel_rfl) rfl atomBack_plain (by kernel_rfl)
#print axioms atomBack_holds
end Go.Proofs.YtcloppcekbdbaaaDoor
