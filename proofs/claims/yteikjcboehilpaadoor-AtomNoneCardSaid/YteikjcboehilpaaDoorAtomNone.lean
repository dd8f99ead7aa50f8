/-
  PROVED: vennlaw4.AtomNone answers true, at any term and world. No condition beyond the card's own list.
-/
import Derived.Test.YteikjcboehilpaaDoorAtomT
import Derived.Test.YteikjcboehilpaaDoorKindsLaw
import Derived.Test.YteikjcboehilpaaDoorOpenW
namespace Go.Proofs.YteikjcboehilpaaDoor
open Go.ChangeShapes Go.WideShapes Go.ChangeAt Go.RowKit

theorem IsInts.nil (w : World) : IsInts w (.slice none 0 0) [] := ⟨none, 0, rfl, Rd.nil _ _, Nat.le_refl _, by simp⟩
theorem many_things : ∀ (U : Fin 7) (S : Fin 64), S.val < 2 ^ U.val → Venn.many ((S.val : Nat) : Int) ≤ ((U.val : Nat) : Int) ∧ Venn.andNot S.val (2 ^ U.val - 1) = 0 := by decide +kernel
theorem set_part {u s : Int} (h : Venn.setChk u s = 0) : Venn.many s ≤ u ∧ ((Venn.andNot s.toNat (Venn.allS u).toNat : Nat) : Int) = 0 := by
  obtain ⟨U, S, rfl, rfl⟩ := Venn.small_of h
  obtain ⟨_, _, h2⟩ := Venn.setChk_iff.1 h
  have := many_things U S (by simpa using h2)
  refine ⟨this.1, ?_⟩
  have e : (Venn.allS ((U.val : Nat) : Int)).toNat = 2 ^ U.val - 1 := by unfold Venn.allS; rw [Int.toNat_natCast]; have := Nat.two_pow_pos U.val; omega
  rw [e, Int.toNat_natCast, this.2]
  rfl

theorem atomNone_chk (t : List Int) (W : Venn.World) : Venn.holdsChk ⟨3, t, [], 0⟩ W = (if Venn.termChk t = 0 then Venn.worldChk W else Venn.termChk t) ∧
    Venn.holdsChk ⟨1, t, [4], 0⟩ W = (if Venn.termChk t = 0 then Venn.worldChk W else Venn.termChk t) ∧ Venn.holdsChk ⟨5, t, t, 0⟩ W = (if Venn.termChk t = 0 then Venn.worldChk W else Venn.termChk t) ∧
    (Venn.holdsChk ⟨4, t, [], W.things⟩ W = 0 → Venn.termChk t = 0 ∧ Venn.worldChk W = 0) ∧ (Venn.termChk t = 0 → Venn.worldChk W = 0 → Venn.holdsChk ⟨4, t, [], W.things⟩ W = 0) := by
  have h4 : Venn.termChk [4] = 0 := by decide +kernel
  by_cases h : Venn.termChk t = 0
  · refine ⟨by simp [Venn.holdsChk, Venn.atomChk, h, Venn.hasT, Venn.nChk], by simp [Venn.holdsChk, Venn.atomChk, h, h4, Venn.hasT, Venn.nChk], by simp [Venn.holdsChk, Venn.atomChk, h, Venn.hasT, Venn.nChk], ?_, ?_⟩
    · intro h2
      unfold Venn.holdsChk at h2
      split at h2
      · exact ⟨h, h2⟩
      · contradiction
    · intro _ hw
      have := (Venn.worldChk_iff.1 hw).1
      simp [Venn.things] at this
      rw [Venn.holdsChk, if_pos, hw]
      simp [Venn.atomChk, h, Venn.hasT, Venn.nChk]
      omega
  · refine ⟨by simp [Venn.holdsChk, Venn.atomChk, h], by simp [Venn.holdsChk, Venn.atomChk, h], by simp [Venn.holdsChk, Venn.atomChk, h], ?_, fun h' => absurd h' h⟩
    intro h2
    simp [Venn.holdsChk, Venn.atomChk, h] at h2

set_option maxHeartbeats 4000000 in
set_option maxRecDepth 100000 in
theorem atomNone_walk (v : Value) (t : List Int) (th a b c : Int) (w : World) (ht : IsInts w v t) (hk : KindsOk w) :
    Calls Tryd.prog 4 #[v, .agg #[.int .i64 th, .int .i64 a, .int .i64 b, .int .i64 c]] w (Keeps (.bool true) w) := by
  obtain ⟨tA, tc, rfl, htr, htl, htc⟩ := ht
  have HT : IsInts w (.slice tA t.length tc) t := ⟨tA, tc, rfl, htr, htl, htc⟩
  clear htr htl htc
  obtain ⟨c1, c2, c3, c4, c5⟩ := atomNone_chk t ⟨th, a, b, c⟩
  by_cases hz : Venn.termChk t = 0 ∧ Venn.worldChk ⟨th, a, b, c⟩ = 0
  · rw [if_pos hz.1, hz.2] at c1 c2 c3
    have c4' := c5 hz.1 hz.2
    have hs := set_part (Venn.termSet_right hz.2 t)
    have hm := Venn.many_le (Venn.termSet t ⟨th, a, b, c⟩)
    have f1 : Venn.holdsV ⟨3, t, [], 0⟩ ⟨th, a, b, c⟩ = true := by rw [Venn.holdsV, if_pos c1]; simp [Venn.atomTrue]; exact hm.1
    have f2 : Venn.holdsV ⟨4, t, [], th⟩ ⟨th, a, b, c⟩ = true := by rw [Venn.holdsV, if_pos c4']; simp [Venn.atomTrue]; exact hs.1
    have f3 : Venn.holdsV ⟨1, t, [4], 0⟩ ⟨th, a, b, c⟩ = true := by
      rw [Venn.holdsV, if_pos c2]
      have e : Venn.termSet [4] ⟨th, a, b, c⟩ = Venn.allS th := rfl
      simp only [Venn.atomTrue, e, if_true]
      rw [show ((Venn.andNot (Venn.termSet t ⟨th, a, b, c⟩).toNat (Venn.allS th).toNat : Nat) : Int) = 0 from hs.2]
      rfl
    have f4 : Venn.holdsV ⟨5, t, t, 0⟩ ⟨th, a, b, c⟩ = true := by rw [Venn.holdsV, if_pos c3]; simp [Venn.atomTrue]
    have H1 := Lib.hid (And.intro f1 (errV_zero c1)); have H2 := Lib.hid (And.intro f2 (errV_zero c4')); have H3 := Lib.hid (And.intro f3 (errV_zero c2)); have H4 := Lib.hid (And.intro f4 (errV_zero c3))
    clear c1 c2 c3 c4 c5 c4' hs hm f1 f2 f3 f4 hz
    go_enter Tryd.func4, Tryd.ntmps4
    go_wp2_with fail
    refine (atom_Holds _ _ _ _ t [] _ _ _ _ _ (HT.keep (by (repeat' (first | (with_reducible exact Below.refl _ _) | (with_reducible refine Below.next ?_ (by with_reducible assumption)) | (with_reducible refine Below.drew ?_) | (with_reducible refine Below.laid ?_ _) | (with_reducible refine Below.setCell ?_ ?_ _) | (with_reducible refine size_of ?_) | (with_reducible refine Nat.le_succ_of_le ?_) | go_size)))) (IsInts.nil _) (hk.keep (by (repeat' (first | (with_reducible exact Below.refl _ _) | (with_reducible refine Below.next ?_ (by with_reducible assumption)) | (with_reducible refine Below.drew ?_) | (with_reducible refine Below.laid ?_ _) | (with_reducible refine Below.setCell ?_ ?_ _) | (with_reducible refine size_of ?_) | (with_reducible refine Nat.le_succ_of_le ?_) | go_size))))).mono ?_
    rintro e w1 ⟨rfl, hb1⟩
    rw [H1.out.1, H1.out.2]
    have B1 := (Blk.new w _ _).keep hb1
    obtain ⟨d0, d1, d2, d3⟩ := B1.cells4
    go_wp2_with fail
    refine (atom_Holds _ _ _ _ t [] _ _ _ _ _ (HT.keep (by (repeat' (first | (with_reducible exact Below.refl _ _) | (with_reducible refine Below.next ?_ (by with_reducible assumption)) | (with_reducible refine Below.drew ?_) | (with_reducible refine Below.laid ?_ _) | (with_reducible refine Below.setCell ?_ ?_ _) | (with_reducible refine size_of ?_) | (with_reducible refine Nat.le_succ_of_le ?_) | go_size)))) (IsInts.nil _) (hk.keep (by (repeat' (first | (with_reducible exact Below.refl _ _) | (with_reducible refine Below.next ?_ (by with_reducible assumption)) | (with_reducible refine Below.drew ?_) | (with_reducible refine Below.laid ?_ _) | (with_reducible refine Below.setCell ?_ ?_ _) | (with_reducible refine size_of ?_) | (with_reducible refine Nat.le_succ_of_le ?_) | go_size))))).mono ?_
    rintro e w2 ⟨rfl, hb2⟩
    rw [H2.out.1, H2.out.2]
    have B2 := B1.keep hb2
    obtain ⟨e0, e1, e2, e3⟩ := B2.cells4
    have hlt2 := B2.lt
    go_wp2_with fail
    refine (atom_Holds _ _ _ _ t [4] _ _ _ _ _ (HT.keep (by (repeat' (first | (with_reducible exact Below.refl _ _) | (with_reducible refine Below.next ?_ (by with_reducible assumption)) | (with_reducible refine Below.drew ?_) | (with_reducible refine Below.laid ?_ _) | (with_reducible refine Below.setCell ?_ ?_ _) | (with_reducible refine size_of ?_) | (with_reducible refine Nat.le_succ_of_le ?_) | go_size)))) (IsInts.of_new w2 [4] _ (by decide)) (hk.keep (by (repeat' (first | (with_reducible exact Below.refl _ _) | (with_reducible refine Below.next ?_ (by with_reducible assumption)) | (with_reducible refine Below.drew ?_) | (with_reducible refine Below.laid ?_ _) | (with_reducible refine Below.setCell ?_ ?_ _) | (with_reducible refine size_of ?_) | (with_reducible refine Nat.le_succ_of_le ?_) | go_size))))).mono ?_
    rintro e w3 ⟨rfl, hb3⟩
    rw [H3.out.1, H3.out.2]
    obtain ⟨f0, f1, f2, f3⟩ := ((B2.alloc _).keep hb3).cells4
    go_wp2_with fail
    refine (atom_Holds _ _ _ _ t t _ _ _ _ _ (HT.keep (by (repeat' (first | (with_reducible exact Below.refl _ _) | (with_reducible refine Below.next ?_ (by with_reducible assumption)) | (with_reducible refine Below.drew ?_) | (with_reducible refine Below.laid ?_ _) | (with_reducible refine Below.setCell ?_ ?_ _) | (with_reducible refine size_of ?_) | (with_reducible refine Nat.le_succ_of_le ?_) | go_size)))) (HT.keep (by (repeat' (first | (with_reducible exact Below.refl _ _) | (with_reducible refine Below.next ?_ (by with_reducible assumption)) | (with_reducible refine Below.drew ?_) | (with_reducible refine Below.laid ?_ _) | (with_reducible refine Below.setCell ?_ ?_ _) | (with_reducible refine size_of ?_) | (with_reducible refine Nat.le_succ_of_le ?_) | go_size)))) (hk.keep (by (repeat' (first | (with_reducible exact Below.refl _ _) | (with_reducible refine Below.next ?_ (by with_reducible assumption)) | (with_reducible refine Below.drew ?_) | (with_reducible refine Below.laid ?_ _) | (with_reducible refine Below.setCell ?_ ?_ _) | (with_reducible refine size_of ?_) | (with_reducible refine Nat.le_succ_of_le ?_) | go_size))))).mono ?_
    rintro e w4 ⟨rfl, hb4⟩
    rw [H4.out.1, H4.out.2]
    go_wp2
    go_ret
    exact ⟨rfl, by (repeat' (first | (with_reducible exact Below.refl _ _) | (with_reducible refine Below.next ?_ (by with_reducible assumption)) | (with_reducible refine Below.drew ?_) | (with_reducible refine Below.laid ?_ _) | (with_reducible refine Below.setCell ?_ ?_ _) | (with_reducible refine size_of ?_) | (with_reducible refine Nat.le_succ_of_le ?_) | go_size))⟩
  · have hne : (if Venn.termChk t = 0 then Venn.worldChk ⟨th, a, b, c⟩ else Venn.termChk t) ≠ 0 := by
      split
      · rename_i h; exact fun h' => hz ⟨h, h'⟩
      · assumption
    generalize (if Venn.termChk t = 0 then Venn.worldChk ⟨th, a, b, c⟩ else Venn.termChk t) = E at c1 c2 c3 hne
    have h2 : Venn.holdsChk ⟨4, t, [], th⟩ ⟨th, a, b, c⟩ ≠ 0 := fun h => hz (c4 h)
    have H1 := Lib.hid (show errV (Venn.holdsChk ⟨3, t, [], 0⟩ ⟨th, a, b, c⟩) = .iface 66 (.int .i64 E) by rw [c1]; exact errV_ne hne)
    have H2 := Lib.hid (errV_ne h2)
    have H3 := Lib.hid (show errV (Venn.holdsChk ⟨1, t, [4], 0⟩ ⟨th, a, b, c⟩) = .iface 66 (.int .i64 E) by rw [c2]; exact errV_ne hne)
    have H4 := Lib.hid (show errV (Venn.holdsChk ⟨5, t, t, 0⟩ ⟨th, a, b, c⟩) = .iface 66 (.int .i64 E) by rw [c3]; exact errV_ne hne)
    clear c1 c2 c3 c4 c5 hz h2 hne
    go_enter Tryd.func4, Tryd.ntmps4
    go_wp2_with fail
    refine (atom_Holds _ _ _ _ t [] _ _ _ _ _ (HT.keep (by (repeat' (first | (with_reducible exact Below.refl _ _) | (with_reducible refine Below.next ?_ (by with_reducible assumption)) | (with_reducible refine Below.drew ?_) | (with_reducible refine Below.laid ?_ _) | (with_reducible refine Below.setCell ?_ ?_ _) | (with_reducible refine size_of ?_) | (with_reducible refine Nat.le_succ_of_le ?_) | go_size)))) (IsInts.nil _) (hk.keep (by (repeat' (first | (with_reducible exact Below.refl _ _) | (with_reducible refine Below.next ?_ (by with_reducible assumption)) | (with_reducible refine Below.drew ?_) | (with_reducible refine Below.laid ?_ _) | (with_reducible refine Below.setCell ?_ ?_ _) | (with_reducible refine size_of ?_) | (with_reducible refine Nat.le_succ_of_le ?_) | go_size))))).mono ?_
    rintro e w1 ⟨rfl, hb1⟩
    rw [H1.out]
    have B1 := (Blk.new w _ _).keep hb1
    obtain ⟨d0, d1, d2, d3⟩ := B1.cells4
    go_wp2_with fail
    refine (atom_Holds _ _ _ _ t [] _ _ _ _ _ (HT.keep (by (repeat' (first | (with_reducible exact Below.refl _ _) | (with_reducible refine Below.next ?_ (by with_reducible assumption)) | (with_reducible refine Below.drew ?_) | (with_reducible refine Below.laid ?_ _) | (with_reducible refine Below.setCell ?_ ?_ _) | (with_reducible refine size_of ?_) | (with_reducible refine Nat.le_succ_of_le ?_) | go_size)))) (IsInts.nil _) (hk.keep (by (repeat' (first | (with_reducible exact Below.refl _ _) | (with_reducible refine Below.next ?_ (by with_reducible assumption)) | (with_reducible refine Below.drew ?_) | (with_reducible refine Below.laid ?_ _) | (with_reducible refine Below.setCell ?_ ?_ _) | (with_reducible refine size_of ?_) | (with_reducible refine Nat.le_succ_of_le ?_) | go_size))))).mono ?_
    rintro e w2 ⟨rfl, hb2⟩
    rw [H2.out]
    have B2 := B1.keep hb2
    obtain ⟨e0, e1, e2, e3⟩ := B2.cells4
    have hlt2 := B2.lt
    go_wp2_with fail
    refine (atom_Holds _ _ _ _ t [4] _ _ _ _ _ (HT.keep (by (repeat' (first | (with_reducible exact Below.refl _ _) | (with_reducible refine Below.next ?_ (by with_reducible assumption)) | (with_reducible refine Below.drew ?_) | (with_reducible refine Below.laid ?_ _) | (with_reducible refine Below.setCell ?_ ?_ _) | (with_reducible refine size_of ?_) | (with_reducible refine Nat.le_succ_of_le ?_) | go_size)))) (IsInts.of_new w2 [4] _ (by decide)) (hk.keep (by (repeat' (first | (with_reducible exact Below.refl _ _) | (with_reducible refine Below.next ?_ (by with_reducible assumption)) | (with_reducible refine Below.drew ?_) | (with_reducible refine Below.laid ?_ _) | (with_reducible refine Below.setCell ?_ ?_ _) | (with_reducible refine size_of ?_) | (with_reducible refine Nat.le_succ_of_le ?_) | go_size))))).mono ?_
    rintro e w3 ⟨rfl, hb3⟩
    rw [H3.out]
    obtain ⟨f0, f1, f2, f3⟩ := ((B2.alloc _).keep hb3).cells4
    go_wp2_with fail
    refine (atom_Holds _ _ _ _ t t _ _ _ _ _ (HT.keep (by (repeat' (first | (with_reducible exact Below.refl _ _) | (with_reducible refine Below.next ?_ (by with_reducible assumption)) | (with_reducible refine Below.drew ?_) | (with_reducible refine Below.laid ?_ _) | (with_reducible refine Below.setCell ?_ ?_ _) | (with_reducible refine size_of ?_) | (with_reducible refine Nat.le_succ_of_le ?_) | go_size)))) (HT.keep (by (repeat' (first | (with_reducible exact Below.refl _ _) | (with_reducible refine Below.next ?_ (by with_reducible assumption)) | (with_reducible refine Below.drew ?_) | (with_reducible refine Below.laid ?_ _) | (with_reducible refine Below.setCell ?_ ?_ _) | (with_reducible refine size_of ?_) | (with_reducible refine Nat.le_succ_of_le ?_) | go_size)))) (hk.keep (by (repeat' (first | (with_reducible exact Below.refl _ _) | (with_reducible refine Below.next ?_ (by with_reducible assumption)) | (with_reducible refine Below.drew ?_) | (with_reducible refine Below.laid ?_ _) | (with_reducible refine Below.setCell ?_ ?_ _) | (with_reducible refine size_of ?_) | (with_reducible refine Nat.le_succ_of_le ?_) | go_size))))).mono ?_
    rintro e w4 ⟨rfl, hb4⟩
    rw [H4.out]
    go_wp2
    go_ret
    exact ⟨rfl, by (repeat' (first | (with_reducible exact Below.refl _ _) | (with_reducible refine Below.next ?_ (by with_reducible assumption)) | (with_reducible refine Below.drew ?_) | (with_reducible refine Below.laid ?_ _) | (with_reducible refine Below.setCell ?_ ?_ _) | (with_reducible refine size_of ?_) | (with_reducible refine Nat.le_succ_of_le ?_) | go_size))⟩

set_option maxRecDepth 100000 in
theorem atomNone_contract (H : Type) (enc : TypeId × Value → H) (W : World) (base : Nat) (args : Array Value) (ds gs : List (DataW H)) (before : List MemPlace)
    (hval : ∀ (j : Nat) t v, Tryd.f4.params[j]? = some t → args[j]? = some v → Value.okWide Tryd.prog W .any base t v)
    (hW : DataW.Whole enc Tryd.prog Tryd.f4.params.toList Rows.atomNoneSpec.vars false W args.toList ds gs before) (hL : laidMetH Tryd.prog Rows.atomNoneRow.laid W)
    : Calls Tryd.prog 4 args W fun e W' => ∃ v, e = .returned v ∧ Rows.atomNoneSpec.post enc Tryd.prog Tryd.f4 false true false false W args v W' := by
  have hW' := hW
  obtain ⟨p, q, hA0, hV, rfl, hfz, hnd⟩ := hW
  have hA : DataW.TrodAll enc Tryd.prog W 0 (fun _ => true) true Tryd.f4.params.toList args.toList ds p := hA0
  rw [Tryd.params4] at hA hval
  obtain ⟨v0, vs0, d0, ds0, p0, q0, hargs, rfl, rfl, h0, r0⟩ := trodAll_cons hA
  obtain ⟨v1, vs1, d1, ds1, p1, q1, rfl, rfl, rfl, h1, r1⟩ := trodAll_cons r0
  obtain ⟨rfl, rfl, rfl⟩ := trodAll_nil r1
  obtain rfl : args = #[v0, v1] := by cases args; simp_all
  obtain ⟨rfl, rfl⟩ := trodVars_none hV
  have HKI : KindsOk W := kinds_of_laid hL (by repeat (first | exact List.Mem.head _ | apply List.Mem.tail))
  obtain ⟨t, Ht, wft⟩ := open_isInts Tryd.underlying22 Tryd.underlying3 (by kernel_rfl) (hval 0 22 v0 rfl rfl) h0
  obtain ⟨xth, xa, xb, xc, rfl, xwf⟩ := open_world (hval 1 36 v1 rfl rfl) h1
  clear hA0
  refine (atomNone_walk v0 t xth xa xb xc W Ht HKI).mono fun e W' ⟨he, hw⟩ => ?_
  subst he
  exact ⟨_, rfl, law_post laidOut Tryd.underlying4 (by kernel_rfl) rfl (by kernel_rfl) hW' rfl hw⟩

theorem atomNone_met (os : Os) : laidMetH Tryd.prog Rows.atomNoneRow.laid ((World.doorLaid Tryd.prog 400 os).forCall (fun _ _ => 0) ⟨#[], #[.slice none 0 0, .agg #[.int .i64 0, .int .i64 0, .int .i64 0, .int .i64 0]], []⟩).memory :=
  laidMetH_of_parts3 (fuel := 8) (laidMet_of_run' 8 (by kernel_rfl) (by kernel_rfl)) (by kernel_rfl) (by kernel_rfl)

set_option maxRecDepth 100000 in
theorem atomNone_lifted (os : Os) (started : os.Started) (H : Type) (enc : TypeId × Value → H) (F : Stop.Interp) :
    ReturnsInHanded {} Tryd.checked os 4 .any ((OpenSpec.ofChange Rows.atomNoneSpec).preRow enc Tryd.prog Tryd.f4 Rows.atomNoneRow.domain false Rows.atomNoneRow.laid) (((OpenSpec.ofChange Rows.atomNoneSpec).at F).post enc Tryd.prog Tryd.f4 false true false false) := by
  refine returnsInHanded_of_row (C := Tryd.checked) (s := (OpenSpec.ofChange Rows.atomNoneSpec)) own started (by kernel_rfl) Tryd.func4
    (witness_row_at (enc := enc) (C := Tryd.checked) false (World.doorLaid Tryd.prog 400 os) #[.slice none 0 0, .agg #[.int .i64 0, .int .i64 0, .int .i64 0, .int .i64 0]] rfl (by kernel_rfl) (by kernel_rfl) (by kernel_rfl)
      (OpenSpec.preRow_of_cond 8 (x := ([.nil, .agg [.lit (.int .i64 0), .agg [.lit (.int .i64 0), .lit (.int .i64 0), .lit (.int .i64 0)]]], [], [])) (by kernel_rfl) (by kernel_rfl) (fun k hk => by cases hk) (by kernel_rfl) (atomNone_met os))) ?_
  intro W base args ds gs before hval hW _ HKU _ hL _ _
  exact atomNone_contract H enc W base args ds gs before hval hW hL

theorem atomNone_said : Rows.AtomNoneSaid :=
  OpenClaim.holds_of_cond 4 Tryd.f4 rfl rfl rfl rfl rfl rfl rfl ⟨rfl, rfl, rfl, rfl, rfl⟩ rfl rfl rfl rfl rfl (by kernel_rfl) Tryd.func4 (by kernel_rfl)
    (of_decide_eq_true (by kernel_rfl)) (by unfold Func.isWrapper; first | (rw [if_pos (by decide +kernel)]; kernel_rfl) | (rw [if_neg (by decide +kernel)]; exact ⟨rfl, rfl⟩))
    (fun os started H enc _ F => by rw [OpenClaim.pre_eq_preRow]; exact atomNone_lifted os started H enc F)

theorem atomNone_plain (f : FuncId) (fn : Func) (hf : Tryd.pinned.checked.prog.funcNamed "vennhouse/vennlaw4.AtomNone" = some f) (hfn : Tryd.pinned.checked.prog.funcs[f]? = some fn) :
    true = Tryd.pinned.checked.prog.looks [] ∧ ∀ (j : Nat) t, fn.params[j]? = some t → Tryd.pinned.checked.prog.wantsStandIn t = false := by
  obtain rfl : f = 4 := Option.some.inj ((show Tryd.prog.funcNamed "vennhouse/vennlaw4.AtomNone" = some 4 by kernel_rfl).symm.trans hf) |>.symm
  obtain rfl : fn = Tryd.f4 := (Option.some.inj (Tryd.func4.symm.trans hfn)).symm
  refine ⟨by kernel_rfl, fun j t ht => ?_⟩
  rw [Tryd.params4] at ht
  have ht' := Array.mem_of_getElem? ht
  have hall : ∀ t ∈ (#[22, 36] : Array TypeId), Tryd.prog.wantsStandIn t = false := fun t ht => by
    simp only [List.mem_toArray, List.mem_cons, List.not_mem_nil, or_false] at ht
    rcases ht with rfl | rfl
    all_goals kernel_rfl
  exact hall t ht'

theorem atomNone_holds : Rows.AtomNoneCardSaid :=
  Claim7.holds_tied_plain_at .later [] _ _ _ _ atomNone_said (fun _ h => by cases h) (by kernel_rfl) (fun _ h => by cases h) atomNone_row_tie rfl ⟨rfl, rfl⟩ (by kernel_rfl) rfl atomNone_plain (by kernel_rfl)
#print axioms atomNone_holds
end Go.Proofs.YteikjcboehilpaaDoor
