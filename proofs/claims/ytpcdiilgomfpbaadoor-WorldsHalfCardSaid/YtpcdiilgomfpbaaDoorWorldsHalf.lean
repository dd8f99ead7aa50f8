/-
  PROVED: vennlaw4.WorldsHalf answers true, at any name and number. No condition beyond the card's own list.
-/
import Derived.Test.YtpcdiilgomfpbaaDoorWays
import Derived.Test.YtpcdiilgomfpbaaDoorSome
import Derived.Test.YtpcdiilgomfpbaaDoorRefSets
import Derived.Test.YtpcdiilgomfpbaaDoorKindsLaw
import Derived.Test.YtpcdiilgomfpbaaDoorOpenW
namespace Go.Proofs.YtpcdiilgomfpbaaDoor
open Go.ChangeShapes Go.WideShapes Go.ChangeAt Go.RowKit

set_option maxHeartbeats 400000 in
theorem vennlaw4_pow (n : Int) (w : World) (h : n ≤ 61) : Calls Tryd.prog 26 #[.int .i64 n] w (Pure (.int .i64 ((2 ^ n.toNat : Nat) : Int)) w) := by
  go_enter Tryd.func26, Tryd.ntmps26
  go_wp2
  go_loop [3, 4] (fun p i => ∃ k : Nat, k ≤ n.toNat ∧ i = .int .i64 k ∧ p = .int .i64 ((2 ^ k : Nat) : Int)) (fun _ i => n.toNat - (intOf i).toNat)
  case atStart => exact ⟨0, Nat.zero_le _, rfl, rfl⟩
  case round =>
    obtain ⟨k, hk, rfl, rfl⟩ := hrel
    have hp : 2 ^ k ≤ 2 ^ 61 := Nat.pow_le_pow_right (by omega) (by omega)
    have H2 := Lib.hid (Nat.pow_succ (n := 2) (m := k))
    have HN := Lib.hid (show ¬ (k : Int) < n → 2 ^ k = 2 ^ n.toNat from fun h => by rw [show k = n.toNat by omega])
    generalize 2 ^ k = P at hp H2 HN
    by_cases hlt : (k : Int) < n
    · go_wp2
      go_round
      case rel => exact ⟨k + 1, by omega, by go_num, by rw [H2.out]; go_num⟩
      case measure => simp [intOf]; omega
    · go_wp2
      go_ret
      exact ⟨ret_int (by rw [HN.out hlt]; simp), rfl⟩

abbrev halfForm (name : Int) : Venn.Form := ⟨[⟨4, [name], [], 0⟩], [0]⟩
theorem half_chk0 (name : Int) (h : 0 ≤ name ∧ name ≤ 4) : Venn.formChk (halfForm name) = 0 := by
  rcases (by omega : name = 0 ∨ name = 1 ∨ name = 2 ∨ name = 3 ∨ name = 4) with rfl | rfl | rfl | rfl | rfl
  all_goals decide
theorem half_chk1 (name : Int) (h : ¬ (0 ≤ name ∧ name ≤ 4)) : ¬ Venn.formChk (halfForm name) = 0 := by
  have ht : ¬ Venn.termChk [name] = 0 := by
    by_cases h8 : 0 ≤ name ∧ name ≤ 8
    · rcases (by omega : name = 5 ∨ name = 6 ∨ name = 7 ∨ name = 8) with rfl | rfl | rfl | rfl
      all_goals decide
    · have hb : Venn.badSign name = true := by simp [Venn.badSign]; omega
      simp [Venn.termChk, hb]
  simp [Venn.formChk, Venn.atomsChk, Venn.atomChk, ht]
theorem half_bad {name u : Int} (h : ¬ (0 ≤ name ∧ name ≤ 4) ∨ Venn.things u = false) : ∃ e, worldsVv (halfForm name) u = .tuple #[.int .i64 0, .iface 111 (.int .i64 e)] := by
  by_cases hn : 0 ≤ name ∧ name ≤ 4
  · have hu : Venn.things u = false := by rcases h with h | h; exact absurd hn h; exact h
    exact ⟨1, worldsVv_bad (by rw [Venn.worldsChk, if_pos (half_chk0 name hn), hu]; rfl) (by decide)⟩
  · exact ⟨_, worldsVv_bad (by rw [Venn.worldsChk, if_neg (half_chk1 name hn)]) (half_chk1 name hn)⟩
theorem half_ok {name u : Int} (h : 0 ≤ name ∧ name ≤ 4) (hu : Venn.things u = true) : worldsVv (halfForm name) u = .tuple #[.int .i64 (Venn.worldsGo (halfForm name) (Venn.allC u)), .nilIface] := by
  have hc : Venn.worldsChk (halfForm name) u = 0 := by rw [Venn.worldsChk, if_pos (half_chk0 name h), if_pos hu]
  rw [worldsVv, Venn.worldsV, if_pos hc, errV_zero hc]
theorem half_count {name u : Int} (h : 0 ≤ name ∧ name ≤ 2) (hu : Venn.things u = true) : Venn.worldsGo (halfForm name) (Venn.allC u) = ((2 ^ (2 * u).toNat : Nat) : Int) := by
  simp only [Venn.things, Bool.and_eq_true, decide_eq_true_eq] at hu
  have := Venn.half_lits ⟨u.toNat, by omega⟩ ⟨name.toNat, by omega⟩
  simp only [show ((name.toNat : Nat) : Int) = name by omega] at this
  rw [Venn.allC, show (2 * u).toNat = 2 * u.toNat by omega]
  exact this

theorem boxesHalf {w w1 : World} {tA tB tC tD : TypeId} {a b c d : Array Value} (hb : Below ((((w.alloc (.cells a tA)).alloc (.cells b tB)).alloc (.cells c tC)).alloc (.cells d tD)).heap.size ((((w.alloc (.cells a tA)).alloc (.cells b tB)).alloc (.cells c tC)).alloc (.cells d tD)) w1) :
    Blk w1 w.heap.size tA a ∧ Blk w1 (w.heap.size + 1) tB b ∧ Blk w1 (w.heap.size + 1 + 1) tC c ∧ Blk w1 (w.heap.size + 1 + 1 + 1) tD d :=
  ⟨((((Blk.new _ _ _).alloc _).alloc _).alloc _).keep hb, (((Blk.newAt (by simp) _ _).alloc _).alloc _).keep hb, ((Blk.newAt (by simp) _ _).alloc _).keep hb, (Blk.newAt (by simp) _ _).keep hb⟩

set_option maxHeartbeats 4000000 in
set_option maxRecDepth 100000 in
theorem worldsHalf_walk (name u : Int) (w : World) (hk : KindsOk w) : Calls Tryd.prog 5 #[.int .i64 name, .int .i64 u] w (Keeps (.bool true) w) := by
  have HK := Lib.hid hk
  clear hk
  by_cases hg : (0 ≤ name ∧ name ≤ 4) ∧ Venn.things u = true
  · obtain ⟨hn4, hu⟩ := hg
    have hu' : 0 ≤ u ∧ u ≤ 6 := by simpa [Venn.things] using hu
    have HX := Lib.hid (half_ok hn4 hu)
    have HQ := Lib.hid (fun h => half_count (name := name) (u := u) h hu)
    clear hu
    generalize Venn.worldsGo (halfForm name) (Venn.allC u) = G at HX HQ
    by_cases hn2 : 2 < name
    · have h0 : ¬ name < 0 := by omega
      have h5 : name < 5 := by omega
      go_enter Tryd.func5, Tryd.ntmps5
      go_wp2_with (go_at_call 25; refine (worlds_Of _ _ [⟨4, [name], [], 0⟩] [0] u _ (IsAtoms.one (a := ⟨4, [name], [], 0⟩) (((Blk.newAt (by simp) _ _).alloc _).alloc _) (IsInts.of_blk1 ((((Blk.new _ _ _).alloc _).alloc _).alloc _)) (IsIntsNil _)) (IsInts.of_blk1 ((Blk.newAt (by simp) _ _).alloc _)) (HK.out.keep (by (repeat' (first | (with_reducible exact Below.refl _ _) | (with_reducible refine Below.next ?_ (by with_reducible assumption)) | (with_reducible refine Below.drew ?_) | (with_reducible refine Below.laid ?_ _) | (with_reducible refine Below.setCell ?_ ?_ _) | (with_reducible refine size_of ?_) | (with_reducible refine Nat.le_succ_of_le ?_) | go_size))))).mono ?_; rintro e w1 ⟨rfl, hb1⟩; rw [HX.out])
      go_ret
      exact ⟨rfl, by (repeat' (first | (with_reducible exact Below.refl _ _) | (with_reducible refine Below.next ?_ (by with_reducible assumption)) | (with_reducible refine Below.drew ?_) | (with_reducible refine Below.laid ?_ _) | (with_reducible refine Below.setCell ?_ ?_ _) | (with_reducible refine size_of ?_) | (with_reducible refine Nat.le_succ_of_le ?_) | go_size))⟩
    · have HG := Lib.hid (HQ.out ⟨hn4.1, by omega⟩)
      have HP := Lib.hid (fun W => vennlaw4_pow (2 * u) W (by omega))
      rw [← HG.out] at HP
      have h0 : ¬ name < 0 := by omega
      have h1 : ¬ u < 0 := by omega
      have h2 : ¬ 6 < u := by omega
      have hw : IntKind.i64.wrap (2 * u) = 2 * u := IntWalk.i64_in _ (by omega)
      go_enter Tryd.func5, Tryd.ntmps5
      go_wp2_with (first
        | (go_at_call 25; refine (worlds_Of _ _ [⟨4, [name], [], 0⟩] [0] u _ (IsAtoms.one (a := ⟨4, [name], [], 0⟩) (((Blk.newAt (by simp) _ _).alloc _).alloc _) (IsInts.of_blk1 ((((Blk.new _ _ _).alloc _).alloc _).alloc _)) (IsIntsNil _)) (IsInts.of_blk1 ((Blk.newAt (by simp) _ _).alloc _)) (HK.out.keep (by (repeat' (first | (with_reducible exact Below.refl _ _) | (with_reducible refine Below.next ?_ (by with_reducible assumption)) | (with_reducible refine Below.drew ?_) | (with_reducible refine Below.laid ?_ _) | (with_reducible refine Below.setCell ?_ ?_ _) | (with_reducible refine size_of ?_) | (with_reducible refine Nat.le_succ_of_le ?_) | go_size))))).mono ?_; rintro e w1 ⟨rfl, hb1⟩; rw [HX.out])
        | (go_at_call 26; refine (HP.out _).mono ?_; rintro e w' ⟨rfl, rfl⟩))
      go_ret
      exact ⟨by simp, by (repeat' (first | (with_reducible exact Below.refl _ _) | (with_reducible refine Below.next ?_ (by with_reducible assumption)) | (with_reducible refine Below.drew ?_) | (with_reducible refine Below.laid ?_ _) | (with_reducible refine Below.setCell ?_ ?_ _) | (with_reducible refine size_of ?_) | (with_reducible refine Nat.le_succ_of_le ?_) | go_size))⟩
  · have HB : ∃ e, worldsVv (halfForm name) u = .tuple #[.int .i64 0, .iface 111 (.int .i64 e)] := half_bad (by
      by_cases hn : 0 ≤ name ∧ name ≤ 4
      · right
        cases hu : Venn.things u
        · rfl
        · exact absurd ⟨hn, hu⟩ hg
      · exact .inl hn)
    obtain ⟨e, he⟩ := HB
    have HX := Lib.hid he
    have hu : ¬ (0 ≤ name ∧ name ≤ 4) ∨ ¬ (0 ≤ u ∧ u ≤ 6) := by
      by_cases hn : 0 ≤ name ∧ name ≤ 4
      · right
        intro h
        exact hg ⟨hn, by simp [Venn.things]; omega⟩
      · exact .inl hn
    clear he hg
    rcases (by omega : name < 0 ∨ (¬ name < 0 ∧ 2 < name) ∨ (¬ name < 0 ∧ ¬ 2 < name ∧ u < 0) ∨ (¬ name < 0 ∧ ¬ 2 < name ∧ ¬ u < 0 ∧ 6 < u)) with h0 | ⟨h0, h1⟩ | ⟨h0, h1, h2⟩ | ⟨h0, h1, h2, h3⟩
    all_goals
      clear hu
      go_enter Tryd.func5, Tryd.ntmps5
      go_wp2_with (go_at_call 25; refine (worlds_Of _ _ [⟨4, [name], [], 0⟩] [0] u _ (IsAtoms.one (a := ⟨4, [name], [], 0⟩) (((Blk.newAt (by simp) _ _).alloc _).alloc _) (IsInts.of_blk1 ((((Blk.new _ _ _).alloc _).alloc _).alloc _)) (IsIntsNil _)) (IsInts.of_blk1 ((Blk.newAt (by simp) _ _).alloc _)) (HK.out.keep (by (repeat' (first | (with_reducible exact Below.refl _ _) | (with_reducible refine Below.next ?_ (by with_reducible assumption)) | (with_reducible refine Below.drew ?_) | (with_reducible refine Below.laid ?_ _) | (with_reducible refine Below.setCell ?_ ?_ _) | (with_reducible refine size_of ?_) | (with_reducible refine Nat.le_succ_of_le ?_) | go_size))))).mono ?_; rintro e w1 ⟨rfl, hb1⟩; rw [HX.out])
      go_ret
      exact ⟨rfl, by (repeat' (first | (with_reducible exact Below.refl _ _) | (with_reducible refine Below.next ?_ (by with_reducible assumption)) | (with_reducible refine Below.drew ?_) | (with_reducible refine Below.laid ?_ _) | (with_reducible refine Below.setCell ?_ ?_ _) | (with_reducible refine size_of ?_) | (with_reducible refine Nat.le_succ_of_le ?_) | go_size))⟩

set_option maxRecDepth 100000 in
theorem worldsHalf_contract (H : Type) (enc : TypeId × Value → H) (W : World) (base : Nat) (args : Array Value) (ds gs : List (DataW H)) (before : List MemPlace)
    (hval : ∀ (j : Nat) t v, Tryd.f5.params[j]? = some t → args[j]? = some v → Value.okWide Tryd.prog W .any base t v)
    (hW : DataW.Whole enc Tryd.prog Tryd.f5.params.toList Rows.worldsHalfSpec.vars false W args.toList ds gs before) (hL : laidMetH Tryd.prog Rows.worldsHalfRow.laid W)
    : Calls Tryd.prog 5 args W fun e W' => ∃ v, e = .returned v ∧ Rows.worldsHalfSpec.post enc Tryd.prog Tryd.f5 false true false false W args v W' := by
  have hW' := hW
  obtain ⟨p, q, hA0, hV, rfl, hfz, hnd⟩ := hW
  have hA : DataW.TrodAll enc Tryd.prog W 0 (fun _ => true) true Tryd.f5.params.toList args.toList ds p := hA0
  rw [Tryd.params5] at hA hval
  obtain ⟨v0, vs0, d0, ds0, p0, q0, hargs, rfl, rfl, h0, r0⟩ := trodAll_cons hA
  obtain ⟨v1, vs1, d1, ds1, p1, q1, rfl, rfl, rfl, h1, r1⟩ := trodAll_cons r0
  obtain ⟨rfl, rfl, rfl⟩ := trodAll_nil r1
  obtain rfl : args = #[v0, v1] := by cases args; simp_all
  obtain ⟨rfl, rfl⟩ := trodVars_none hV
  have HKI : KindsOk W := kinds_of_laid hL (by repeat (first | exact List.Mem.head _ | apply List.Mem.tail))
  obtain ⟨n, rfl, rfl, rfl, wn⟩ := open_int Tryd.underlying3 (hval 0 3 v0 rfl rfl) h0
  obtain ⟨m, rfl, rfl, rfl, wm⟩ := open_int Tryd.underlying3 (hval 1 3 v1 rfl rfl) h1
  clear hA0
  refine (worldsHalf_walk n m W HKI).mono fun e W' ⟨he, hw⟩ => ?_
  subst he
  exact ⟨_, rfl, law_post laidOut Tryd.underlying4 (by kernel_rfl) rfl (by kernel_rfl) hW' rfl hw⟩

theorem worldsHalf_met (os : Os) : laidMetH Tryd.prog Rows.worldsHalfRow.laid ((World.doorLaid Tryd.prog 400 os).forCall (fun _ _ => 0) ⟨#[], #[.int .i64 0, .int .i64 0], []⟩).memory :=
  laidMetH_of_parts3 (fuel := 8) (laidMet_of_run' 8 (by kernel_rfl) (by kernel_rfl)) (by kernel_rfl) (by kernel_rfl)

set_option maxRecDepth 100000 in
theorem worldsHalf_lifted (os : Os) (started : os.Started) (H : Type) (enc : TypeId × Value → H) (F : Stop.Interp) :
    ReturnsInHanded {} Tryd.checked os 5 .any ((OpenSpec.ofChange Rows.worldsHalfSpec).preRow enc Tryd.prog Tryd.f5 Rows.worldsHalfRow.domain false Rows.worldsHalfRow.laid) (((OpenSpec.ofChange Rows.worldsHalfSpec).at F).post enc Tryd.prog Tryd.f5 false true false false) := by
  refine returnsInHanded_of_row (C := Tryd.checked) (s := (OpenSpec.ofChange Rows.worldsHalfSpec)) own started (by kernel_rfl) Tryd.func5
    (witness_row_at (enc := enc) (C := Tryd.checked) false (World.doorLaid Tryd.prog 400 os) #[.int .i64 0, .int .i64 0] rfl (by kernel_rfl) (by kernel_rfl) (by kernel_rfl)
      (OpenSpec.preRow_of_cond 8 (x := ([.lit (.int .i64 0), .lit (.int .i64 0)], [], [])) (by kernel_rfl) (by kernel_rfl) (fun k hk => by cases hk) (by kernel_rfl) (worldsHalf_met os))) ?_
  intro W base args ds gs before hval hW _ HKU _ hL _ _
  exact worldsHalf_contract H enc W base args ds gs before hval hW hL

theorem worldsHalf_said : Rows.WorldsHalfSaid :=
  OpenClaim.holds_of_cond 5 Tryd.f5 rfl rfl rfl rfl rfl rfl rfl ⟨rfl, rfl, rfl, rfl, rfl⟩ rfl rfl rfl rfl rfl (by kernel_rfl) Tryd.func5 (by kernel_rfl)
    (of_decide_eq_true (by kernel_rfl)) (by unfold Func.isWrapper; first | (rw [if_pos (by decide +kernel)]; kernel_rfl) | (rw [if_neg (by decide +kernel)]; exact ⟨rfl, rfl⟩))
    (fun os started H enc _ F => by rw [OpenClaim.pre_eq_preRow]; exact worldsHalf_lifted os started H enc F)

theorem worldsHalf_plain (f : FuncId) (fn : Func) (hf : Tryd.pinned.checked.prog.funcNamed "vennhouse/vennlaw4.WorldsHalf" = some f) (hfn : Tryd.pinned.checked.prog.funcs[f]? = some fn) :
    true = Tryd.pinned.checked.prog.looks [] ∧ ∀ (j : Nat) t, fn.params[j]? = some t → Tryd.pinned.checked.prog.wantsStandIn t = false := by
  obtain rfl : f = 5 := Option.some.inj ((show Tryd.prog.funcNamed "vennhouse/vennlaw4.WorldsHalf" = some 5 by kernel_rfl).symm.trans hf) |>.symm
  obtain rfl : fn = Tryd.f5 := (Option.some.inj (Tryd.func5.symm.trans hfn)).symm
  refine ⟨by kernel_rfl, fun j t ht => ?_⟩
  rw [Tryd.params5] at ht
  have ht' := Array.mem_of_getElem? ht
  have hall : ∀ t ∈ (#[3, 3] : Array TypeId), Tryd.prog.wantsStandIn t = false := fun t ht => by
    simp only [List.mem_toArray, List.mem_cons, List.not_mem_nil, or_false] at ht
    rcases ht with rfl | rfl
    all_goals kernel_rfl
  exact hall t ht'

theorem worldsHalf_holds : Rows.WorldsHalfCardSaid :=
  Claim7.holds_tied_plain_at .later [] _ _ _ _ worldsHalf_said (fun _ h => by cases h) (by kernel_rfl) (fun _ h => by cases h) worldsHalf_row_tie rfl ⟨rfl, rfl⟩ (by kernel_rfl) rfl worldsHalf_plain (by kernel_rfl)
#print axioms worldsHalf_holds
end Go.Proofs.YtpcdiilgomfpbaaDoor
