/-
  PROVED: vennlaw4.AskMany answers true, at any four numbers. No condition beyond the card's own list.
-/
import Derived.Test.YtpcdiilgomfpbaaDoorAsk
import Derived.Test.YtpcdiilgomfpbaaDoorSome
import Derived.Test.YtpcdiilgomfpbaaDoorKindsLaw
import Derived.Test.YtpcdiilgomfpbaaDoorOpenW
namespace Go.Proofs.YtpcdiilgomfpbaaDoor
open Go.ChangeShapes Go.WideShapes Go.ChangeAt Go.RowKit

set_option maxHeartbeats 4000000 in
set_option maxRecDepth 100000 in
theorem askMany_walk (name n m u : Int) (w : World) (hk : KindsOk w) : Calls Tryd.prog 11 #[.int .i64 name, .int .i64 n, .int .i64 m, .int .i64 u] w (Keeps (.bool true) w) := by
  have HK := Lib.hid hk
  clear hk
  by_cases hg : (0 ≤ name ∧ name ≤ 2) ∧ (0 ≤ n ∧ n ≤ 20) ∧ (0 ≤ m ∧ m ≤ 20) ∧ (0 ≤ u ∧ u ≤ 6) ∧ n ≤ u
  · obtain ⟨hn, h1, h2, h3, h4⟩ := hg
    obtain ⟨g1, g2⟩ := Venn.ask_more name n m u hn h1 h2 h3 h4
    have HX := Lib.hid (show askVv [Venn.moreForm name n] (Venn.moreForm name m) u = .tuple #[.int .i64 (if m ≤ n then 1 else if u < m then -1 else 0), .nilIface] by rw [askVv, g1, g2]; rfl)
    clear g1 g2
    have n1 : ¬ name < 0 := by omega
    have n2 : ¬ 2 < name := by omega
    have n3 : ¬ n < 0 := by omega
    have n4 : ¬ m < 0 := by omega
    have n5 : ¬ 20 < n := by omega
    have n6 : ¬ 20 < m := by omega
    have n7 : ¬ u < 0 := by omega
    have n8 : ¬ 6 < u := by omega
    have n9 : ¬ u < n := by omega
    clear hn h1 h2 h3 h4
    have HKV : ∃ KV : Int, askVv [Venn.moreForm name n] (Venn.moreForm name m) u = .tuple #[.int .i64 KV, .nilIface] ∧ ((m ≤ n ∧ KV = 1) ∨ (¬ m ≤ n ∧ u < m ∧ KV = -1) ∨ (¬ m ≤ n ∧ ¬ u < m ∧ KV = 0)) := by
      refine ⟨_, HX.out, ?_⟩
      by_cases hmn : m ≤ n
      · exact .inl ⟨hmn, if_pos hmn⟩
      · by_cases hum : u < m
        · exact .inr (.inl ⟨hmn, hum, by rw [if_neg hmn, if_pos hum]⟩)
        · exact .inr (.inr ⟨hmn, hum, by rw [if_neg hmn, if_neg hum]⟩)
    clear HX
    obtain ⟨KV, hKV, hcases⟩ := HKV
    have HX := Lib.hid hKV
    have HCS := Lib.hid hcases
    clear hKV hcases
    go_enter Tryd.func11, Tryd.ntmps11
    go_wp2_with fail
    refine (vennlaw4_atomOf name n _).mono ?_
    rintro e w1 ⟨A1, C1, rfl, hb1, hA1, hC1⟩
    go_wp2_with fail
    refine (vennlaw4_atomOf name m _).mono ?_
    rintro e w2 ⟨A2, C2, rfl, hb2, hA2, hC2⟩
    have BL := (Blk.new w1 50 #[.slice (some A1) 1 1, .slice (some C1) 1 1]).keep hb2
    have HLS : IsForms w2 (.slice (some ⟨w1.heap.size, 0, none⟩) 1 1) [Venn.moreForm name n] := IsForms.one BL (hA1.keep (by (repeat' (first | (with_reducible exact Below.refl _ _) | (with_reducible refine Below.next ?_ (by with_reducible assumption)) | (with_reducible refine Below.drew ?_) | (with_reducible refine Below.laid ?_ _) | (with_reducible refine Below.setCell ?_ ?_ _) | (with_reducible refine size_of ?_) | (with_reducible refine Nat.le_succ_of_le ?_) | go_size)))) (hC1.keep (by (repeat' (first | (with_reducible exact Below.refl _ _) | (with_reducible refine Below.next ?_ (by with_reducible assumption)) | (with_reducible refine Below.drew ?_) | (with_reducible refine Below.laid ?_ _) | (with_reducible refine Below.setCell ?_ ?_ _) | (with_reducible refine size_of ?_) | (with_reducible refine Nat.le_succ_of_le ?_) | go_size))))
    have HK2 : KindsOk w2 := HK.out.keep (by (repeat' (first | (with_reducible exact Below.refl _ _) | (with_reducible refine Below.next ?_ (by with_reducible assumption)) | (with_reducible refine Below.drew ?_) | (with_reducible refine Below.laid ?_ _) | (with_reducible refine Below.setCell ?_ ?_ _) | (with_reducible refine size_of ?_) | (with_reducible refine Nat.le_succ_of_le ?_) | go_size)))
    go_wp2_with fail
    refine (ask_Of _ _ _ [Venn.moreForm name n] [⟨3, [name], [], m⟩] [0] u _ HLS hA2 hC2 HK2).mono ?_
    rintro e w3 ⟨rfl, hb3⟩
    rw [HX.out]
    clear n1 n2 n3 n4 n5 n6 n7 n8 n9 HLS BL
    rcases HCS.out with ⟨h1, rfl⟩ | ⟨h1, h2, rfl⟩ | ⟨h1, h2, rfl⟩
    all_goals
      go_wp2
      go_ret
      exact ⟨rfl, by (repeat' (first | (with_reducible exact Below.refl _ _) | (with_reducible refine Below.next ?_ (by with_reducible assumption)) | (with_reducible refine Below.drew ?_) | (with_reducible refine Below.laid ?_ _) | (with_reducible refine Below.setCell ?_ ?_ _) | (with_reducible refine size_of ?_) | (with_reducible refine Nat.le_succ_of_le ?_) | go_size))⟩
  · by_cases n1 : name < 0
    · clear hg
      go_enter Tryd.func11, Tryd.ntmps11
      go_wp2
      go_ret
      exact ⟨rfl, by (repeat' (first | (with_reducible exact Below.refl _ _) | (with_reducible refine Below.next ?_ (by with_reducible assumption)) | (with_reducible refine Below.drew ?_) | (with_reducible refine Below.laid ?_ _) | (with_reducible refine Below.setCell ?_ ?_ _) | (with_reducible refine size_of ?_) | (with_reducible refine Nat.le_succ_of_le ?_) | go_size))⟩
    by_cases n2 : 2 < name
    · clear hg
      go_enter Tryd.func11, Tryd.ntmps11
      go_wp2
      go_ret
      exact ⟨rfl, by (repeat' (first | (with_reducible exact Below.refl _ _) | (with_reducible refine Below.next ?_ (by with_reducible assumption)) | (with_reducible refine Below.drew ?_) | (with_reducible refine Below.laid ?_ _) | (with_reducible refine Below.setCell ?_ ?_ _) | (with_reducible refine size_of ?_) | (with_reducible refine Nat.le_succ_of_le ?_) | go_size))⟩
    by_cases n3 : n < 0
    · clear hg
      go_enter Tryd.func11, Tryd.ntmps11
      go_wp2
      go_ret
      exact ⟨rfl, by (repeat' (first | (with_reducible exact Below.refl _ _) | (with_reducible refine Below.next ?_ (by with_reducible assumption)) | (with_reducible refine Below.drew ?_) | (with_reducible refine Below.laid ?_ _) | (with_reducible refine Below.setCell ?_ ?_ _) | (with_reducible refine size_of ?_) | (with_reducible refine Nat.le_succ_of_le ?_) | go_size))⟩
    by_cases n4 : m < 0
    · clear hg
      go_enter Tryd.func11, Tryd.ntmps11
      go_wp2
      go_ret
      exact ⟨rfl, by (repeat' (first | (with_reducible exact Below.refl _ _) | (with_reducible refine Below.next ?_ (by with_reducible assumption)) | (with_reducible refine Below.drew ?_) | (with_reducible refine Below.laid ?_ _) | (with_reducible refine Below.setCell ?_ ?_ _) | (with_reducible refine size_of ?_) | (with_reducible refine Nat.le_succ_of_le ?_) | go_size))⟩
    by_cases n5 : 20 < n
    · clear hg
      go_enter Tryd.func11, Tryd.ntmps11
      go_wp2
      go_ret
      exact ⟨rfl, by (repeat' (first | (with_reducible exact Below.refl _ _) | (with_reducible refine Below.next ?_ (by with_reducible assumption)) | (with_reducible refine Below.drew ?_) | (with_reducible refine Below.laid ?_ _) | (with_reducible refine Below.setCell ?_ ?_ _) | (with_reducible refine size_of ?_) | (with_reducible refine Nat.le_succ_of_le ?_) | go_size))⟩
    by_cases n6 : 20 < m
    · clear hg
      go_enter Tryd.func11, Tryd.ntmps11
      go_wp2
      go_ret
      exact ⟨rfl, by (repeat' (first | (with_reducible exact Below.refl _ _) | (with_reducible refine Below.next ?_ (by with_reducible assumption)) | (with_reducible refine Below.drew ?_) | (with_reducible refine Below.laid ?_ _) | (with_reducible refine Below.setCell ?_ ?_ _) | (with_reducible refine size_of ?_) | (with_reducible refine Nat.le_succ_of_le ?_) | go_size))⟩
    by_cases n7 : u < 0
    · clear hg
      go_enter Tryd.func11, Tryd.ntmps11
      go_wp2
      go_ret
      exact ⟨rfl, by (repeat' (first | (with_reducible exact Below.refl _ _) | (with_reducible refine Below.next ?_ (by with_reducible assumption)) | (with_reducible refine Below.drew ?_) | (with_reducible refine Below.laid ?_ _) | (with_reducible refine Below.setCell ?_ ?_ _) | (with_reducible refine size_of ?_) | (with_reducible refine Nat.le_succ_of_le ?_) | go_size))⟩
    by_cases n8 : 6 < u
    · clear hg
      go_enter Tryd.func11, Tryd.ntmps11
      go_wp2
      go_ret
      exact ⟨rfl, by (repeat' (first | (with_reducible exact Below.refl _ _) | (with_reducible refine Below.next ?_ (by with_reducible assumption)) | (with_reducible refine Below.drew ?_) | (with_reducible refine Below.laid ?_ _) | (with_reducible refine Below.setCell ?_ ?_ _) | (with_reducible refine size_of ?_) | (with_reducible refine Nat.le_succ_of_le ?_) | go_size))⟩
    have n9 : u < n := by omega
    clear hg
    go_enter Tryd.func11, Tryd.ntmps11
    go_wp2
    go_ret
    exact ⟨rfl, by (repeat' (first | (with_reducible exact Below.refl _ _) | (with_reducible refine Below.next ?_ (by with_reducible assumption)) | (with_reducible refine Below.drew ?_) | (with_reducible refine Below.laid ?_ _) | (with_reducible refine Below.setCell ?_ ?_ _) | (with_reducible refine size_of ?_) | (with_reducible refine Nat.le_succ_of_le ?_) | go_size))⟩

set_option maxRecDepth 100000 in
theorem askMany_contract (H : Type) (enc : TypeId × Value → H) (W : World) (base : Nat) (args : Array Value) (ds gs : List (DataW H)) (before : List MemPlace)
    (hval : ∀ (j : Nat) t v, Tryd.f11.params[j]? = some t → args[j]? = some v → Value.okWide Tryd.prog W .any base t v)
    (hW : DataW.Whole enc Tryd.prog Tryd.f11.params.toList Rows.askManySpec.vars false W args.toList ds gs before) (hL : laidMetH Tryd.prog Rows.askManyRow.laid W)
    : Calls Tryd.prog 11 args W fun e W' => ∃ v, e = .returned v ∧ Rows.askManySpec.post enc Tryd.prog Tryd.f11 false true false false W args v W' := by
  have hW' := hW
  obtain ⟨p, q, hA0, hV, rfl, hfz, hnd⟩ := hW
  have hA : DataW.TrodAll enc Tryd.prog W 0 (fun _ => true) true Tryd.f11.params.toList args.toList ds p := hA0
  rw [Tryd.params11] at hA hval
  obtain ⟨v0, vs0, d0, ds0, p0, q0, hargs, rfl, rfl, h0, r0⟩ := trodAll_cons hA
  obtain ⟨v1, vs1, d1, ds1, p1, q1, rfl, rfl, rfl, h1, r1⟩ := trodAll_cons r0
  obtain ⟨v2, vs2, d2, ds2, p2, q2, rfl, rfl, rfl, h2, r2⟩ := trodAll_cons r1
  obtain ⟨v3, vs3, d3, ds3, p3, q3, rfl, rfl, rfl, h3, r3⟩ := trodAll_cons r2
  obtain ⟨rfl, rfl, rfl⟩ := trodAll_nil r3
  obtain rfl : args = #[v0, v1, v2, v3] := by cases args; simp_all
  obtain ⟨rfl, rfl⟩ := trodVars_none hV
  have HKI : KindsOk W := kinds_of_laid hL (by repeat (first | exact List.Mem.head _ | apply List.Mem.tail))
  obtain ⟨n, rfl, rfl, rfl, wn⟩ := open_int Tryd.underlying3 (hval 0 3 v0 rfl rfl) h0
  obtain ⟨m, rfl, rfl, rfl, wm⟩ := open_int Tryd.underlying3 (hval 1 3 v1 rfl rfl) h1
  obtain ⟨k, rfl, rfl, rfl, wk⟩ := open_int Tryd.underlying3 (hval 2 3 v2 rfl rfl) h2
  obtain ⟨j, rfl, rfl, rfl, wj⟩ := open_int Tryd.underlying3 (hval 3 3 v3 rfl rfl) h3
  clear hA0
  refine (askMany_walk n m k j W HKI).mono fun e W' ⟨he, hw⟩ => ?_
  subst he
  exact ⟨_, rfl, law_post laidOut Tryd.underlying4 (by kernel_rfl) rfl (by kernel_rfl) hW' rfl hw⟩

theorem askMany_met (os : Os) : laidMetH Tryd.prog Rows.askManyRow.laid ((World.doorLaid Tryd.prog 400 os).forCall (fun _ _ => 0) ⟨#[], #[.int .i64 0, .int .i64 0, .int .i64 0, .int .i64 0], []⟩).memory :=
  laidMetH_of_parts3 (fuel := 8) (laidMet_of_run' 8 (by kernel_rfl) (by kernel_rfl)) (by kernel_rfl) (by kernel_rfl)

set_option maxRecDepth 100000 in
theorem askMany_lifted (os : Os) (started : os.Started) (H : Type) (enc : TypeId × Value → H) (F : Stop.Interp) :
    ReturnsInHanded {} Tryd.checked os 11 .any ((OpenSpec.ofChange Rows.askManySpec).preRow enc Tryd.prog Tryd.f11 Rows.askManyRow.domain false Rows.askManyRow.laid) (((OpenSpec.ofChange Rows.askManySpec).at F).post enc Tryd.prog Tryd.f11 false true false false) := by
  refine returnsInHanded_of_row (C := Tryd.checked) (s := (OpenSpec.ofChange Rows.askManySpec)) own started (by kernel_rfl) Tryd.func11
    (witness_row_at (enc := enc) (C := Tryd.checked) false (World.doorLaid Tryd.prog 400 os) #[.int .i64 0, .int .i64 0, .int .i64 0, .int .i64 0] rfl (by kernel_rfl) (by kernel_rfl) (by kernel_rfl)
      (OpenSpec.preRow_of_cond 8 (x := ([.lit (.int .i64 0), .lit (.int .i64 0), .lit (.int .i64 0), .lit (.int .i64 0)], [], [])) (by kernel_rfl) (by kernel_rfl) (fun k hk => by cases hk) (by kernel_rfl) (askMany_met os))) ?_
  intro W base args ds gs before hval hW _ HKU _ hL _ _
  exact askMany_contract H enc W base args ds gs before hval hW hL

theorem askMany_said : Rows.AskManySaid :=
  OpenClaim.holds_of_cond 11 Tryd.f11 rfl rfl rfl rfl rfl rfl rfl ⟨rfl, rfl, rfl, rfl, rfl⟩ rfl rfl rfl rfl rfl (by kernel_rfl) Tryd.func11 (by kernel_rfl)
    (of_decide_eq_true (by kernel_rfl)) (by unfold Func.isWrapper; first | (rw [if_pos (by decide +kernel)]; kernel_rfl) | (rw [if_neg (by decide +kernel)]; exact ⟨rfl, rfl⟩))
    (fun os started H enc _ F => by rw [OpenClaim.pre_eq_preRow]; exact askMany_lifted os started H enc F)

theorem askMany_plain (f : FuncId) (fn : Func) (hf : Tryd.pinned.checked.prog.funcNamed "vennhouse/vennlaw4.AskMany" = some f) (hfn : Tryd.pinned.checked.prog.funcs[f]? = some fn) :
    true = Tryd.pinned.checked.prog.looks [] ∧ ∀ (j : Nat) t, fn.params[j]? = some t → Tryd.pinned.checked.prog.wantsStandIn t = false := by
  obtain rfl : f = 11 := Option.some.inj ((show Tryd.prog.funcNamed "vennhouse/vennlaw4.AskMany" = some 11 by kernel_rfl).symm.trans hf) |>.symm
  obtain rfl : fn = Tryd.f11 := (Option.some.inj (Tryd.func11.symm.trans hfn)).symm
  refine ⟨by kernel_rfl, fun j t ht => ?_⟩
  rw [Tryd.params11] at ht
  have ht' := Array.mem_of_getElem? ht
  have hall : ∀ t ∈ (#[3, 3, 3, 3] : Array TypeId), Tryd.prog.wantsStandIn t = false := fun t ht => by
    simp only [List.mem_toArray, List.mem_cons, List.not_mem_nil, or_false] at ht
    rcases ht with rfl | rfl | rfl | rfl
    all_goals kernel_rfl
  exact hall t ht'

theorem askMany_holds : Rows.AskManyCardSaid :=
  Claim7.holds_tied_plain_at .later [] _ _ _ _ askMany_said (fun _ h => by cases h) (by kernel_rfl) (fun _ h => by cases h) askMany_row_tie rfl ⟨rfl, rfl⟩ (by kernel_rfl) rfl askMany_plain (by kernel_rfl)
#print axioms askMany_holds
end Go.Proofs.YtpcdiilgomfpbaaDoor
