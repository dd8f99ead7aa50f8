/-
  PROVED: vennlaw4.TermTwice answers true, at any term and world. No condition beyond the card's own list.
-/
import Derived.Test.YtpcdiilgomfpbaaDoorRead
import Derived.Test.YtpcdiilgomfpbaaDoorValue
import Derived.Test.YtpcdiilgomfpbaaDoorVennM
import Derived.Test.YtpcdiilgomfpbaaDoorVennTwo
import Derived.Test.YtpcdiilgomfpbaaDoorApp
import Derived.Test.YtpcdiilgomfpbaaDoorDoorLaw
import Derived.Test.YtpcdiilgomfpbaaDoorOpenW
namespace Venn
theorem not_not_set : ∀ (U : Fin 7) (S : Fin 64), S.val < 2 ^ U.val → setOf 8 ((U.val : Nat) : Int) (setOf 8 ((U.val : Nat) : Int) ((S.val : Nat) : Int) 0) 0 = ((S.val : Nat) : Int) := by decide +kernel
theorem not_not {u s : Int} (h : setChk u s = 0) : setOf 8 u (setOf 8 u s 0) 0 = s := by
  obtain ⟨U, S, rfl, rfl⟩ := small_of h
  obtain ⟨_, _, h2⟩ := setChk_iff.1 h
  exact not_not_set U S (by simpa using h2)
theorem termChk_twice {t : List Int} (h : termChk t = 0) (hl : t.length ≤ 10) : termChk (t ++ [8] ++ [8]) = 0 := by
  unfold termChk at h
  split at h
  · simp at h
  rename_i h0
  split at h
  · simp at h
  split at h
  · simp at h
  rename_i h1 h2
  have hb : t.any badSign = false := by simpa using h2
  have hs : shapeGo 0 (t ++ [8] ++ [8]) = 0 := by
    have h1 := shape_app t ([8] ++ [8]) 0 0 (by omega) h
    simp only [Int.add_zero, Int.zero_add] at h1
    rw [List.append_assoc, h1]
    decide
  unfold termChk
  rw [if_neg (by simp), if_neg (by simp; omega), if_neg (by simp [hb, badSign]), hs]
theorem termSet_twice {t : List Int} {w : World} (h : termChk t = 0) (hw : worldChk w = 0) : termSet (t ++ [8] ++ [8]) w = termSet t w := by
  have hr := termSet_right hw t
  rw [termSet, List.foldl_append, List.foldl_append, fold_one h]
  simp only [List.foldl_cons, List.foldl_nil, setStep]
  simp only [show ¬ (8 : Int) < 3 by decide, show ¬ (8 : Int) = 3 by decide, show ¬ (8 : Int) = 4 by decide, if_false, if_true, List.headD_cons]
  exact not_not hr
end Venn
namespace Go.Proofs.YtpcdiilgomfpbaaDoor
open Go.ChangeShapes Go.WideShapes Go.ChangeAt Go.RowKit

theorem Rd.blk2 {w : World} {g : Nat} {t : TypeId} {x y : Int} (h : Blk w g t #[.int .i64 x, .int .i64 y]) : Rd w (some ⟨g, 0, none⟩) ([x, y].map (Value.int .i64)) := fun j u hj => by
  refine ⟨_, rfl, ?_⟩
  have hadd : (⟨g, 0, none⟩ : Addr).add j = ⟨g, j, none⟩ := by unfold Addr.add; split <;> simp_all
  rw [hadd, h.cell j]
  simpa using hj
theorem fact_bad : parseChk [65, 43] = 3 := by decide +kernel

set_option maxHeartbeats 2000000 in
set_option maxRecDepth 100000 in
theorem termTwice_walk (v : Value) (t : List Int) (th a b c : Int) (w : World) (h : IsInts w v t) (HET : EtOk w) :
    Calls Tryd.prog 4 #[v, .agg #[.int .i64 th, .int .i64 a, .int .i64 b, .int .i64 c]] w (Keeps (.bool true) w) := by
  obtain ⟨A, cp, rfl, hr0, hl0, hc0⟩ := h
  have HT : IsInts w (.slice A t.length cp) t := ⟨A, cp, rfl, hr0, hl0, hc0⟩
  have HTR := Lib.hid hr0
  unfold maxLen at hc0
  clear hr0
  have HF := Lib.hid (show errV (parseChk (ByteArray.mk #[65, 43]).data.toList) = errV 3 by
    show errV (parseChk [65, 43]) = _
    rw [fact_bad])
  by_cases hz : Venn.valueChk t ⟨th, a, b, c⟩ = 0 ∧ t.length ≤ 10
  · obtain ⟨hz, hl⟩ := hz
    have hp : Venn.termChk t = 0 ∧ Venn.worldChk ⟨th, a, b, c⟩ = 0 := by
      have h := hz
      unfold Venn.valueChk at h
      split at h
      · rename_i hx; exact ⟨hx, h⟩
      · contradiction
    have hc2 : Venn.valueChk (t ++ [8] ++ [8]) ⟨th, a, b, c⟩ = 0 := by rw [Venn.valueChk, if_pos (Venn.termChk_twice hp.1 hl)]; exact hp.2
    have hv : Venn.valueV (t ++ [8] ++ [8]) ⟨th, a, b, c⟩ = Venn.valueV t ⟨th, a, b, c⟩ := by
      rw [Venn.valueV, Venn.valueV, if_pos hc2, if_pos hz]; exact Venn.termSet_twice hp.1 hp.2
    have HX := Lib.hid (errV_zero hz); have HY := Lib.hid (errV_zero hc2); have HV := Lib.hid hv
    clear hz hp hc2 hv
    have hl' : ¬ (10 : Int) < (t.length : Int) := by omega
    go_enter Tryd.func4, Tryd.ntmps4
    go_wp2_with fail
    refine (term_Value _ t th a b c _ (HT.keep (by (repeat' (first | (with_reducible exact Below.refl _ _) | (with_reducible refine Below.next ?_ (by with_reducible assumption)) | (with_reducible refine Below.drew ?_) | (with_reducible refine Below.laid ?_ _) | (with_reducible refine Below.setCell ?_ ?_ _) | (with_reducible refine size_of ?_) | (with_reducible refine Nat.le_succ_of_le ?_) | go_size))))).mono ?_
    rintro e w1 ⟨rfl, hb1⟩
    rw [HX.out]
    have BW1 := (Blk.new w 41 #[.int .i64 th, .int .i64 a, .int .i64 b, .int .i64 c]).keep hb1
    have hbl1 : Below w.heap.size w w1 := by (repeat' (first | (with_reducible exact Below.refl _ _) | (with_reducible refine Below.next ?_ (by with_reducible assumption)) | (with_reducible refine Below.drew ?_) | (with_reducible refine Below.laid ?_ _) | (with_reducible refine Below.setCell ?_ ?_ _) | (with_reducible refine size_of ?_) | (with_reducible refine Nat.le_succ_of_le ?_) | go_size))
    go_wp2_with (first
      | (at_builtin; refine wpList_appR _ rfl _ _ rfl w1.heap.size (.slice none 0 0) 0 [] rfl (World.ownsRow_nil _ _ _ _) A cp t rfl (HTR.out.keep (by (repeat' (first | (with_reducible exact Below.refl _ _) | (with_reducible refine Below.next ?_ (by with_reducible assumption)) | (with_reducible refine Below.drew ?_) | (with_reducible refine Below.laid ?_ _) | (with_reducible refine Below.setCell ?_ ?_ _) | (with_reducible refine size_of ?_) | (with_reducible refine Nat.le_succ_of_le ?_) | go_size)))) (by omega) (Nat.le_refl _) ?_; intro v9 w9 hown9 hg9; rw [Nat.zero_add, List.nil_append] at hown9; have hb9 : Below w1.heap.size w1 w9 := (Below.refl _ _).grown hg9 (Nat.le_refl _) (fun g h => by cases h))
      | (at_builtin; refine wpList_appR _ rfl _ _ rfl w1.heap.size v9 t.length _ rfl (hown9.alloc _) (some ⟨w9.heap.size, 0, none⟩) 2 [8, 8] rfl (Rd.blk2 (Blk.new w9 _ _)) (by simp; omega) (by have := hb9.size; simp; omega) ?_))
    intro v11 w11 hown11 hg11
    have hb11 : Below w1.heap.size w1 w11 := (hb9.alloc hb9.size _).grown hg11 (by have := hb9.size; simp; omega) (fun g h => (hown9.lt g h).1)
    have hI : IsInts w11 v11 (t ++ [8] ++ [8]) := IsInts.of_own (base := w1.heap.size) (e := 3) (n := t.length + 2) (by simpa using hown11)
    have BW11 := BW1.keep hb11
    have hbl11 : Below w.heap.size w w11 := Below.next hbl1 hb11
    obtain ⟨q0, q1, q2, q3⟩ : w11.cell? ⟨w.heap.size, 0, none⟩ = some (.int .i64 th) ∧ w11.cell? ⟨w.heap.size, 1, none⟩ = some (.int .i64 a) ∧ w11.cell? ⟨w.heap.size, 2, none⟩ = some (.int .i64 b) ∧ w11.cell? ⟨w.heap.size, 3, none⟩ = some (.int .i64 c) := ⟨BW11.cell 0, BW11.cell 1, BW11.cell 2, BW11.cell 3⟩
    clear hown9 hown11 hg9 hg11 hb9 hb11
    go_wp2_with fail
    refine (term_Value _ (t ++ [8] ++ [8]) th a b c _ hI).mono ?_
    rintro e w12 ⟨rfl, hb12⟩
    rw [HY.out, HV.out]
    go_wp2
    go_ret
    exact ⟨rfl, by (repeat' (first | (with_reducible exact Below.refl _ _) | (with_reducible refine Below.next ?_ (by with_reducible assumption)) | (with_reducible refine Below.drew ?_) | (with_reducible refine Below.laid ?_ _) | (with_reducible refine Below.setCell ?_ ?_ _) | (with_reducible refine size_of ?_) | (with_reducible refine Nat.le_succ_of_le ?_) | go_size))⟩
  · have hparse : ∀ W : World, Calls Tryd.prog 24 #[.string ⟨#[65, 43]⟩] W (fun e w' => (∃ x, e = .returned (.tuple #[x, errV 3])) ∧ Below W.heap.size W w') := fun W =>
      (term_Parse _ W (by decide)).mono fun e w' ⟨x, h1, h2, _⟩ => ⟨⟨x, by rw [h1, HF.out]⟩, h2⟩
    have HPARSE := Lib.hid hparse
    clear hparse
    by_cases hv : Venn.valueChk t ⟨th, a, b, c⟩ = 0
    · have hl : 10 < t.length := by
        rcases Nat.lt_or_ge 10 t.length with h | h
        · exact h
        · exact absurd ⟨hv, h⟩ hz
      have HX := Lib.hid (errV_zero hv)
      have hl' : (10 : Int) < (t.length : Int) := by omega
      clear hz hv
      go_enter Tryd.func4, Tryd.ntmps4
      go_wp2_with fail
      refine (term_Value _ t th a b c _ (HT.keep (by (repeat' (first | (with_reducible exact Below.refl _ _) | (with_reducible refine Below.next ?_ (by with_reducible assumption)) | (with_reducible refine Below.drew ?_) | (with_reducible refine Below.laid ?_ _) | (with_reducible refine Below.setCell ?_ ?_ _) | (with_reducible refine size_of ?_) | (with_reducible refine Nat.le_succ_of_le ?_) | go_size))))).mono ?_
      rintro e w1 ⟨rfl, hb1⟩
      rw [HX.out]
      have hbl1 : Below w.heap.size w w1 := by (repeat' (first | (with_reducible exact Below.refl _ _) | (with_reducible refine Below.next ?_ (by with_reducible assumption)) | (with_reducible refine Below.drew ?_) | (with_reducible refine Below.laid ?_ _) | (with_reducible refine Below.setCell ?_ ?_ _) | (with_reducible refine size_of ?_) | (with_reducible refine Nat.le_succ_of_le ?_) | go_size))
      go_wp2_with fail
      refine (HPARSE.out _).mono ?_
      rintro e w2 ⟨⟨x, rfl⟩, hb2⟩
      rw [show errV 3 = .iface 111 (.int .i64 3) from rfl]
      go_wp2_with (go_at_call 19; refine (vennsame_Error 3 _ _ (HET.keep (by (repeat' (first | (with_reducible exact Below.refl _ _) | (with_reducible refine Below.next ?_ (by with_reducible assumption)) | (with_reducible refine Below.drew ?_) | (with_reducible refine Below.laid ?_ _) | (with_reducible refine Below.setCell ?_ ?_ _) | (with_reducible refine size_of ?_) | (with_reducible refine Nat.le_succ_of_le ?_) | go_size))))).mono ?_; rintro e w3 ⟨rfl, hb3⟩)
      go_ret
      exact ⟨rfl, by (repeat' (first | (with_reducible exact Below.refl _ _) | (with_reducible refine Below.next ?_ (by with_reducible assumption)) | (with_reducible refine Below.drew ?_) | (with_reducible refine Below.laid ?_ _) | (with_reducible refine Below.setCell ?_ ?_ _) | (with_reducible refine size_of ?_) | (with_reducible refine Nat.le_succ_of_le ?_) | go_size))⟩
    · have HX := Lib.hid (errV_ne hv)
      clear hz hv
      go_enter Tryd.func4, Tryd.ntmps4
      go_wp2_with fail
      refine (term_Value _ t th a b c _ (HT.keep (by (repeat' (first | (with_reducible exact Below.refl _ _) | (with_reducible refine Below.next ?_ (by with_reducible assumption)) | (with_reducible refine Below.drew ?_) | (with_reducible refine Below.laid ?_ _) | (with_reducible refine Below.setCell ?_ ?_ _) | (with_reducible refine size_of ?_) | (with_reducible refine Nat.le_succ_of_le ?_) | go_size))))).mono ?_
      rintro e w1 ⟨rfl, hb1⟩
      rw [HX.out]
      have hbl1 : Below w.heap.size w w1 := by (repeat' (first | (with_reducible exact Below.refl _ _) | (with_reducible refine Below.next ?_ (by with_reducible assumption)) | (with_reducible refine Below.drew ?_) | (with_reducible refine Below.laid ?_ _) | (with_reducible refine Below.setCell ?_ ?_ _) | (with_reducible refine size_of ?_) | (with_reducible refine Nat.le_succ_of_le ?_) | go_size))
      go_wp2_with fail
      refine (HPARSE.out _).mono ?_
      rintro e w2 ⟨⟨x, rfl⟩, hb2⟩
      rw [show errV 3 = .iface 111 (.int .i64 3) from rfl]
      go_wp2_with (go_at_call 19; refine (vennsame_Error 3 _ _ (HET.keep (by (repeat' (first | (with_reducible exact Below.refl _ _) | (with_reducible refine Below.next ?_ (by with_reducible assumption)) | (with_reducible refine Below.drew ?_) | (with_reducible refine Below.laid ?_ _) | (with_reducible refine Below.setCell ?_ ?_ _) | (with_reducible refine size_of ?_) | (with_reducible refine Nat.le_succ_of_le ?_) | go_size))))).mono ?_; rintro e w3 ⟨rfl, hb3⟩)
      go_ret
      exact ⟨rfl, by (repeat' (first | (with_reducible exact Below.refl _ _) | (with_reducible refine Below.next ?_ (by with_reducible assumption)) | (with_reducible refine Below.drew ?_) | (with_reducible refine Below.laid ?_ _) | (with_reducible refine Below.setCell ?_ ?_ _) | (with_reducible refine size_of ?_) | (with_reducible refine Nat.le_succ_of_le ?_) | go_size))⟩

set_option maxRecDepth 100000 in
theorem termTwice_contract (H : Type) (enc : TypeId × Value → H) (W : World) (base : Nat) (args : Array Value) (ds gs : List (DataW H)) (before : List MemPlace)
    (hval : ∀ (j : Nat) t v, Tryd.f4.params[j]? = some t → args[j]? = some v → Value.okWide Tryd.prog W .any base t v)
    (hW : DataW.Whole enc Tryd.prog Tryd.f4.params.toList Rows.termTwiceSpec.vars false W args.toList ds gs before) (hL : laidMetH Tryd.prog Rows.termTwiceRow.laid W)
    : Calls Tryd.prog 4 args W fun e W' => ∃ v, e = .returned v ∧ Rows.termTwiceSpec.post enc Tryd.prog Tryd.f4 false true false false W args v W' := by
  have hW' := hW
  obtain ⟨p, q, hA0, hV, rfl, hfz, hnd⟩ := hW
  have hA : DataW.TrodAll enc Tryd.prog W 0 (fun _ => true) true Tryd.f4.params.toList args.toList ds p := hA0
  rw [Tryd.params4] at hA hval
  obtain ⟨v0, vs0, d0, ds0, p0, q0, hargs, rfl, rfl, h0, r0⟩ := trodAll_cons hA
  obtain ⟨v1, vs1, d1, ds1, p1, q1, rfl, rfl, rfl, h1, r1⟩ := trodAll_cons r0
  obtain ⟨rfl, rfl, rfl⟩ := trodAll_nil r1
  obtain rfl : args = #[v0, v1] := by cases args; simp_all
  obtain ⟨rfl, rfl⟩ := trodVars_none hV
  have HET : EtOk W := et_of_laid hL (by repeat (first | exact List.Mem.head _ | apply List.Mem.tail))
  obtain ⟨t, Ht, wft⟩ := open_isInts Tryd.underlying38 Tryd.underlying3 (by kernel_rfl) (hval 0 38 v0 rfl rfl) h0
  obtain ⟨xth, xa, xb, xc, rfl, xwf⟩ := open_world (hval 1 41 v1 rfl rfl) h1
  clear hA0
  refine (termTwice_walk v0 t xth xa xb xc W Ht HET).mono fun e W' ⟨he, hw⟩ => ?_
  subst he
  exact ⟨_, rfl, law_post laidOut Tryd.underlying4 (by kernel_rfl) rfl (by kernel_rfl) hW' rfl hw⟩

theorem termTwice_met (os : Os) : laidMetH Tryd.prog Rows.termTwiceRow.laid ((World.doorLaid Tryd.prog 400 os).forCall (fun _ _ => 0) ⟨#[], #[.slice none 0 0, .agg #[.int .i64 0, .int .i64 0, .int .i64 0, .int .i64 0]], []⟩).memory :=
  laidMetH_of_parts3 (fuel := 8) (laidMet_of_run' 8 (by kernel_rfl) (by kernel_rfl)) (by kernel_rfl) (by kernel_rfl)

set_option maxRecDepth 100000 in
theorem termTwice_lifted (os : Os) (started : os.Started) (H : Type) (enc : TypeId × Value → H) (F : Stop.Interp) :
    ReturnsInHanded {} Tryd.checked os 4 .any ((OpenSpec.ofChange Rows.termTwiceSpec).preRow enc Tryd.prog Tryd.f4 Rows.termTwiceRow.domain false Rows.termTwiceRow.laid) (((OpenSpec.ofChange Rows.termTwiceSpec).at F).post enc Tryd.prog Tryd.f4 false true false false) := by
  refine returnsInHanded_of_row (C := Tryd.checked) (s := (OpenSpec.ofChange Rows.termTwiceSpec)) own started (by kernel_rfl) Tryd.func4
    (witness_row_at (enc := enc) (C := Tryd.checked) false (World.doorLaid Tryd.prog 400 os) #[.slice none 0 0, .agg #[.int .i64 0, .int .i64 0, .int .i64 0, .int .i64 0]] rfl (by kernel_rfl) (by kernel_rfl) (by kernel_rfl)
      (OpenSpec.preRow_of_cond 8 (x := ([.nil, .agg [.lit (.int .i64 0), .agg [.lit (.int .i64 0), .lit (.int .i64 0), .lit (.int .i64 0)]]], [], [])) (by kernel_rfl) (by kernel_rfl) (fun k hk => by cases hk) (by kernel_rfl) (termTwice_met os))) ?_
  intro W base args ds gs before hval hW _ HKU _ hL _ _
  exact termTwice_contract H enc W base args ds gs before hval hW hL

theorem termTwice_said : Rows.TermTwiceSaid :=
  OpenClaim.holds_of_cond 4 Tryd.f4 rfl rfl rfl rfl rfl rfl rfl ⟨rfl, rfl, rfl, rfl, rfl⟩ rfl rfl rfl rfl rfl (by kernel_rfl) Tryd.func4 (by kernel_rfl)
    (of_decide_eq_true (by kernel_rfl)) (by unfold Func.isWrapper; first | (rw [if_pos (by decide +kernel)]; kernel_rfl) | (rw [if_neg (by decide +kernel)]; exact ⟨rfl, rfl⟩))
    (fun os started H enc _ F => by rw [OpenClaim.pre_eq_preRow]; exact termTwice_lifted os started H enc F)

theorem termTwice_plain (f : FuncId) (fn : Func) (hf : Tryd.pinned.checked.prog.funcNamed "vennhouse/vennlaw4.TermTwice" = some f) (hfn : Tryd.pinned.checked.prog.funcs[f]? = some fn) :
    true = Tryd.pinned.checked.prog.looks [] ∧ ∀ (j : Nat) t, fn.params[j]? = some t → Tryd.pinned.checked.prog.wantsStandIn t = false := by
  obtain rfl : f = 4 := Option.some.inj ((show Tryd.prog.funcNamed "vennhouse/vennlaw4.TermTwice" = some 4 by kernel_rfl).symm.trans hf) |>.symm
  obtain rfl : fn = Tryd.f4 := (Option.some.inj (Tryd.func4.symm.trans hfn)).symm
  refine ⟨by kernel_rfl, fun j t ht => ?_⟩
  rw [Tryd.params4] at ht
  have ht' := Array.mem_of_getElem? ht
  have hall : ∀ t ∈ (#[38, 41] : Array TypeId), Tryd.prog.wantsStandIn t = false := fun t ht => by
    simp only [List.mem_toArray, List.mem_cons, List.not_mem_nil, or_false] at ht
    rcases ht with rfl | rfl
    all_goals kernel_rfl
  exact hall t ht'

theorem termTwice_holds : Rows.TermTwiceCardSaid :=
  Claim7.holds_tied_plain_at .later [] _ _ _ _ termTwice_said (fun _ h => by cases h) (by kernel_rfl) (fun _ h => by cases h) termTwice_row_tie rfl ⟨rfl, rfl⟩ (by kernel_rfl) rfl termTwice_plain (by kernel_rfl)
#print axioms termTwice_holds
end Go.Proofs.YtpcdiilgomfpbaaDoor
