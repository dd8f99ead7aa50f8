/-
  PROVED: vennlaw4.SetsAll answers true, at any integers. No condition beyond the card's own list.
-/
import Derived.Test.YteikjcboehilpaaDoorRefSets
import Derived.Test.YteikjcboehilpaaDoorDoorLaw
namespace Go.Proofs.YteikjcboehilpaaDoor
open Go.ChangeShapes Go.WideShapes Go.ChangeAt Go.RowKit

theorem all_facts : ∀ U : Fin 7, Venn.setOf 8 ((U.val : Nat) : Int) 0 0 = Venn.allS ((U.val : Nat) : Int) ∧ Venn.many (Venn.allS ((U.val : Nat) : Int)) = ((U.val : Nat) : Int) ∧ ∀ I : Fin 6, I.val < U.val → Venn.bit (Venn.allS ((U.val : Nat) : Int)) I.val = true := by decide +kernel

set_option maxHeartbeats 2000000 in
theorem setsAll_walk (u i : Int) (w : World) (HET : EtOk w) : Calls Tryd.prog 6 #[.int .i64 u, .int .i64 i] w (Keeps (.bool true) w) := by
  by_cases hu : 0 ≤ u ∧ u ≤ 6
  · obtain ⟨U, rfl⟩ : ∃ U : Fin 7, u = ((U.val : Nat) : Int) := ⟨⟨u.toNat, by omega⟩, by simp; omega⟩
    have ht : Venn.things ((U.val : Nat) : Int) = true := by simp [Venn.things]; omega
    obtain ⟨f1, f2, f3⟩ := all_facts U
    have hz := Venn.setChk_zero ht
    have ha := Venn.setChk_all ht
    have hd := sets_Do_ok 8 ((U.val : Nat) : Int) 0 0 w hz hz (by decide) (by decide)
    rw [f1] at hd
    have HD := Lib.hid hd
    by_cases hi : i < 0 ∨ ((U.val : Nat) : Int) ≤ i
    · have HH := Lib.hid (show Venn.hasV ((U.val : Nat) : Int) (Venn.allS ((U.val : Nat) : Int)) i = false ∧ errV (Venn.hasChk ((U.val : Nat) : Int) (Venn.allS ((U.val : Nat) : Int)) i) = errV 1 by
        have : Venn.hasChk ((U.val : Nat) : Int) (Venn.allS ((U.val : Nat) : Int)) i = 1 := by rw [Venn.hasChk, if_pos ha, if_pos hi]
        rw [Venn.hasV, this]; exact ⟨rfl, rfl⟩)
      have F2 := Lib.hid f2
      clear f1 f2 f3 hd hz
      generalize Venn.allS ((U.val : Nat) : Int) = S at HH F2 HD ha
      rcases hi with hi | hi
      all_goals
        go_enter Tryd.func6, Tryd.ntmps6
        go_wp2_with (first
          | (go_at_call 21; refine (HD.out).mono ?_; rintro e w1 ⟨rfl, hb1⟩)
          | (go_at_call 18; refine (sets_Size_ok _ _ _ ha).mono ?_; rintro e w' ⟨rfl, rfl⟩; rw [F2.out])
          | (go_at_call 19; refine (sets_Has _ _ _ _).mono ?_; rintro e w' ⟨rfl, rfl⟩; rw [HH.out.1, HH.out.2])
          | (go_at_call 14; refine (vennsame_Error _ _ _ (HET.keep (by (repeat' (first | (with_reducible exact Below.refl _ _) | (with_reducible refine Below.next ?_ (by with_reducible assumption)) | (with_reducible refine Below.drew ?_) | (with_reducible refine Below.laid ?_ _) | (with_reducible refine Below.setCell ?_ ?_ _) | (with_reducible refine size_of ?_) | (with_reducible refine Nat.le_succ_of_le ?_) | go_size))))).mono ?_; rintro e w2 ⟨rfl, hb2⟩))
        all_goals (first | (exfalso; omega) | (go_ret; exact ⟨rfl, by (repeat' (first | (with_reducible exact Below.refl _ _) | (with_reducible refine Below.next ?_ (by with_reducible assumption)) | (with_reducible refine Below.drew ?_) | (with_reducible refine Below.laid ?_ _) | (with_reducible refine Below.setCell ?_ ?_ _) | (with_reducible refine size_of ?_) | (with_reducible refine Nat.le_succ_of_le ?_) | go_size))⟩))
    · have h1 : ¬ i < 0 := by omega
      have h2 : ¬ ((U.val : Nat) : Int) ≤ i := by omega
      have HH := Lib.hid (show Venn.hasV ((U.val : Nat) : Int) (Venn.allS ((U.val : Nat) : Int)) i = true ∧ errV (Venn.hasChk ((U.val : Nat) : Int) (Venn.allS ((U.val : Nat) : Int)) i) = .nilIface by
        have : Venn.hasChk ((U.val : Nat) : Int) (Venn.allS ((U.val : Nat) : Int)) i = 0 := by rw [Venn.hasChk, if_pos ha, if_neg hi]
        rw [Venn.hasV, this]
        exact ⟨f3 ⟨i.toNat, by omega⟩ (by simp; omega), rfl⟩)
      have F2 := Lib.hid f2
      clear f1 f2 f3 hd hz hi
      generalize Venn.allS ((U.val : Nat) : Int) = S at HH F2 HD ha
      go_enter Tryd.func6, Tryd.ntmps6
      go_wp2_with (first
        | (go_at_call 21; refine (HD.out).mono ?_; rintro e w1 ⟨rfl, hb1⟩)
        | (go_at_call 18; refine (sets_Size_ok _ _ _ ha).mono ?_; rintro e w' ⟨rfl, rfl⟩; rw [F2.out])
        | (go_at_call 19; refine (sets_Has _ _ _ _).mono ?_; rintro e w' ⟨rfl, rfl⟩; rw [HH.out.1, HH.out.2]))
      all_goals (first | (exfalso; omega) | (go_ret; exact ⟨rfl, by (repeat' (first | (with_reducible exact Below.refl _ _) | (with_reducible refine Below.next ?_ (by with_reducible assumption)) | (with_reducible refine Below.drew ?_) | (with_reducible refine Below.laid ?_ _) | (with_reducible refine Below.setCell ?_ ?_ _) | (with_reducible refine size_of ?_) | (with_reducible refine Nat.le_succ_of_le ?_) | go_size))⟩))
  · have ht : Venn.things u = false := by simp [Venn.things]; omega
    have hd := sets_Do 8 u 0 0 w
    have hc : Venn.setDoChk 8 u 0 0 = 1 := by simp [Venn.setDoChk, Venn.setChk, ht]
    rw [Venn.setDoV, hc, if_neg (by decide), show errV 1 = .iface 66 (.int .i64 1) from rfl] at hd
    have HD := Lib.hid hd
    clear hd hc ht
    by_cases h0 : u < 0
    · go_enter Tryd.func6, Tryd.ntmps6
      go_wp2_with (go_at_call 21; refine (HD.out).mono ?_; rintro e w1 ⟨rfl, hb1⟩)
      all_goals (first | (exfalso; omega) | (go_ret; exact ⟨rfl, by (repeat' (first | (with_reducible exact Below.refl _ _) | (with_reducible refine Below.next ?_ (by with_reducible assumption)) | (with_reducible refine Below.drew ?_) | (with_reducible refine Below.laid ?_ _) | (with_reducible refine Below.setCell ?_ ?_ _) | (with_reducible refine size_of ?_) | (with_reducible refine Nat.le_succ_of_le ?_) | go_size))⟩))
    · have h1 : 6 < u := by omega
      go_enter Tryd.func6, Tryd.ntmps6
      go_wp2_with (go_at_call 21; refine (HD.out).mono ?_; rintro e w1 ⟨rfl, hb1⟩)
      all_goals (first | (exfalso; omega) | (go_ret; exact ⟨rfl, by (repeat' (first | (with_reducible exact Below.refl _ _) | (with_reducible refine Below.next ?_ (by with_reducible assumption)) | (with_reducible refine Below.drew ?_) | (with_reducible refine Below.laid ?_ _) | (with_reducible refine Below.setCell ?_ ?_ _) | (with_reducible refine size_of ?_) | (with_reducible refine Nat.le_succ_of_le ?_) | go_size))⟩))

set_option maxRecDepth 100000 in
theorem setsAll_contract (H : Type) (enc : TypeId × Value → H) (W : World) (base : Nat) (args : Array Value) (ds gs : List (DataW H)) (before : List MemPlace)
    (hval : ∀ (j : Nat) t v, Tryd.f6.params[j]? = some t → args[j]? = some v → Value.okWide Tryd.prog W .any base t v)
    (hW : DataW.Whole enc Tryd.prog Tryd.f6.params.toList Rows.setsAllSpec.vars false W args.toList ds gs before) (hL : laidMetH Tryd.prog Rows.setsAllRow.laid W)
    : Calls Tryd.prog 6 args W fun e W' => ∃ v, e = .returned v ∧ Rows.setsAllSpec.post enc Tryd.prog Tryd.f6 false true false false W args v W' := by
  have hW' := hW
  obtain ⟨p, q, hA0, hV, rfl, hfz, hnd⟩ := hW
  have hA : DataW.TrodAll enc Tryd.prog W 0 (fun _ => true) true Tryd.f6.params.toList args.toList ds p := hA0
  rw [Tryd.params6] at hA hval
  obtain ⟨v0, vs0, d0, ds0, p0, q0, hargs, rfl, rfl, h0, r0⟩ := trodAll_cons hA
  obtain ⟨v1, vs1, d1, ds1, p1, q1, rfl, rfl, rfl, h1, r1⟩ := trodAll_cons r0
  obtain ⟨rfl, rfl, rfl⟩ := trodAll_nil r1
  obtain rfl : args = #[v0, v1] := by cases args; simp_all
  obtain ⟨rfl, rfl⟩ := trodVars_none hV
  have HET : EtOk W := et_of_laid hL (by repeat (first | exact List.Mem.head _ | apply List.Mem.tail))
  obtain ⟨u, rfl, rfl, rfl, wu⟩ := open_int Tryd.underlying3 (hval 0 3 v0 rfl rfl) h0
  obtain ⟨i, rfl, rfl, rfl, wi⟩ := open_int Tryd.underlying3 (hval 1 3 v1 rfl rfl) h1
  clear hA0
  refine (setsAll_walk u i W HET).mono fun e W' ⟨he, hw⟩ => ?_
  subst he
  exact ⟨_, rfl, law_post laidOut Tryd.underlying4 (by kernel_rfl) rfl (by kernel_rfl) hW' rfl hw⟩

theorem setsAll_met (os : Os) : laidMetH Tryd.prog Rows.setsAllRow.laid ((World.doorLaid Tryd.prog 400 os).forCall (fun _ _ => 0) ⟨#[], #[.int .i64 0, .int .i64 0], []⟩).memory :=
  laidMetH_of_parts3 (fuel := 8) (laidMet_of_run' 8 (by kernel_rfl) (by kernel_rfl)) (by kernel_rfl) (by kernel_rfl)

set_option maxRecDepth 100000 in
theorem setsAll_lifted (os : Os) (started : os.Started) (H : Type) (enc : TypeId × Value → H) (F : Stop.Interp) :
    ReturnsInHanded {} Tryd.checked os 6 .any ((OpenSpec.ofChange Rows.setsAllSpec).preRow enc Tryd.prog Tryd.f6 Rows.setsAllRow.domain false Rows.setsAllRow.laid) (((OpenSpec.ofChange Rows.setsAllSpec).at F).post enc Tryd.prog Tryd.f6 false true false false) := by
  refine returnsInHanded_of_row (C := Tryd.checked) (s := (OpenSpec.ofChange Rows.setsAllSpec)) own started (by kernel_rfl) Tryd.func6
    (witness_row_at (enc := enc) (C := Tryd.checked) false (World.doorLaid Tryd.prog 400 os) #[.int .i64 0, .int .i64 0] rfl (by kernel_rfl) (by kernel_rfl) (by kernel_rfl)
      (OpenSpec.preRow_of_cond 8 (x := ([.lit (.int .i64 0), .lit (.int .i64 0)], [], [])) (by kernel_rfl) (by kernel_rfl) (fun k hk => by cases hk) (by kernel_rfl) (setsAll_met os))) ?_
  intro W base args ds gs before hval hW _ HKU _ hL _ _
  exact setsAll_contract H enc W base args ds gs before hval hW hL

theorem setsAll_said : Rows.SetsAllSaid :=
  OpenClaim.holds_of_cond 6 Tryd.f6 rfl rfl rfl rfl rfl rfl rfl ⟨rfl, rfl, rfl, rfl, rfl⟩ rfl rfl rfl rfl rfl (by kernel_rfl) Tryd.func6 (by kernel_rfl)
    (of_decide_eq_true (by kernel_rfl)) (by unfold Func.isWrapper; first | (rw [if_pos (by decide +kernel)]; kernel_rfl) | (rw [if_neg (by decide +kernel)]; exact ⟨rfl, rfl⟩))
    (fun os started H enc _ F => by rw [OpenClaim.pre_eq_preRow]; exact setsAll_lifted os started H enc F)

theorem setsAll_plain (f : FuncId) (fn : Func) (hf : Tryd.pinned.checked.prog.funcNamed "vennhouse/vennlaw4.SetsAll" = some f) (hfn : Tryd.pinned.checked.prog.funcs[f]? = some fn) :
    true = Tryd.pinned.checked.prog.looks [] ∧ ∀ (j : Nat) t, fn.params[j]? = some t → Tryd.pinned.checked.prog.wantsStandIn t = false := by
  obtain rfl : f = 6 := Option.some.inj ((show Tryd.prog.funcNamed "vennhouse/vennlaw4.SetsAll" = some 6 by kernel_rfl).symm.trans hf) |>.symm
  obtain rfl : fn = Tryd.f6 := (Option.some.inj (Tryd.func6.symm.trans hfn)).symm
  refine ⟨by kernel_rfl, fun j t ht => ?_⟩
  rw [Tryd.params6] at ht
  have ht' := Array.mem_of_getElem? ht
  have hall : ∀ t ∈ (#[3, 3] : Array TypeId), Tryd.prog.wantsStandIn t = false := fun t ht => by
    simp only [List.mem_toArray, List.mem_cons, List.not_mem_nil, or_false] at ht
    rcases ht with rfl | rfl
    all_goals kernel_rfl
  exact hall t ht'

theorem setsAll_holds : Rows.SetsAllCardSaid :=
  Claim7.holds_tied_plain_at .later [] _ _ _ _ setsAll_said (fun _ h => by cases h) (by kernel_rfl) (fun _ h => by cases h) setsAll_row_tie rfl ⟨rfl, rfl⟩ (by kernel_rfl) rfl setsAll_plain (by kernel_rfl)
#print axioms setsAll_holds
end Go.Proofs.YteikjcboehilpaaDoor
