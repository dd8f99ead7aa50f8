/-
  FORMULAS OF ONE ATOM IN BOXES; the walk of vennlaw2.SpanReached.
-/
import Derived.Test.YtnjamgmaclmlpaaDoorCoreSome
import Derived.Test.YtnjamgmaclmlpaaDoorSpan
import Derived.Test.YtnjamgmaclmlpaaDoorFormHolds
import Derived.Test.YtnjamgmaclmlpaaDoorRefSets
import Derived.Test.YtnjamgmaclmlpaaDoorSome
import Derived.Test.YtnjamgmaclmlpaaDoorSetsT
import Derived.IntWalk
import Derived.Test.YtnjamgmaclmlpaaDoorLawF
namespace Go.Proofs.YtnjamgmaclmlpaaDoor
open Go.RowKit

/-- A formula in a box. -/
structure FormAt (w : World) (X : Nat) (sa sc : Value) (f : Venn.Form) : Prop where
  box : Blk w X 41 #[sa, sc]
  ha : IsAtoms w sa f.atoms
  hc : IsInts w sc f.code
theorem FormAt.keep {w w' : World} {X : Nat} {sa sc : Value} {f : Venn.Form} (h : FormAt w X sa sc f) (hb : Below w.heap.size w w') : FormAt w' X sa sc f := ⟨h.box.keep hb, h.ha.keep hb, h.hc.keep hb⟩
theorem FormAt.one (w : World) (what n : Int) (tv : Value) (t : List Int) (ht : IsInts w tv t) :
    FormAt (((w.alloc (.cells #[.int .i64 what, tv, .slice none 0 0, .int .i64 n] 56)).alloc (.cells #[.int .i64 0] 3)).alloc (.cells #[.slice (some ⟨w.heap.size, 0, none⟩) 1 1, .slice (some ⟨w.heap.size + 1, 0, none⟩) 1 1] 41))
      (w.heap.size + 1 + 1) (.slice (some ⟨w.heap.size, 0, none⟩) 1 1) (.slice (some ⟨w.heap.size + 1, 0, none⟩) 1 1) ⟨[⟨what, t, [], n⟩], [0]⟩ ∧
    Below w.heap.size w (((w.alloc (.cells #[.int .i64 what, tv, .slice none 0 0, .int .i64 n] 56)).alloc (.cells #[.int .i64 0] 3)).alloc (.cells #[.slice (some ⟨w.heap.size, 0, none⟩) 1 1, .slice (some ⟨w.heap.size + 1, 0, none⟩) 1 1] 41)) :=
  ⟨⟨Blk.newAt (by simp) _ _, IsAtoms.one (a := ⟨what, t, [], n⟩) (((Blk.new _ _ _).alloc _).alloc _) (ht.keep (by (repeat' (first | (with_reducible exact Below.refl _ _) | (with_reducible assumption) | (with_reducible refine Below.next ?_ (by with_reducible assumption)) | (with_reducible refine Below.drew ?_) | (with_reducible refine Below.laid ?_ _) | (with_reducible refine Below.setCell ?_ ?_ _) | (with_reducible refine size_of ?_) | (with_reducible refine Nat.le_succ_of_le ?_) | go_size)))) (IsIntsNil _), IsInts.of_blk1 ((Blk.newAt (by simp) _ _).alloc _)⟩, by (repeat' (first | (with_reducible exact Below.refl _ _) | (with_reducible assumption) | (with_reducible refine Below.next ?_ (by with_reducible assumption)) | (with_reducible refine Below.drew ?_) | (with_reducible refine Below.laid ?_ _) | (with_reducible refine Below.setCell ?_ ?_ _) | (with_reducible refine size_of ?_) | (with_reducible refine Nat.le_succ_of_le ?_) | go_size))⟩
theorem IsForms.two {w : World} {g : Nat} {t : TypeId} {f1 f2 : Venn.Form} {sa sc ta tc : Value} (h : Blk w g t #[sa, sc, ta, tc]) (ha : IsAtoms w sa f1.atoms) (hc : IsInts w sc f1.code) (ka : IsAtoms w ta f2.atoms) (kc : IsInts w tc f2.code) :
    IsForms w (.slice (some ⟨g, 0, none⟩) 2 2) [f1, f2] := by
  refine ⟨_, _, rfl, fun k x hx => ?_, Nat.le_refl _, by simp [maxLen]⟩
  match k, hx with
  | 0, hx =>
    simp at hx
    subst hx
    exact ⟨_, sa, sc, rfl, h.cell 0, h.cell 1, ha, hc⟩
  | 1, hx =>
    simp at hx
    subst hx
    exact ⟨_, ta, tc, rfl, h.cell 2, h.cell 3, ka, kc⟩
set_option maxRecDepth 1000000 in
theorem reach_fact0 : Venn.spanChk (Venn.moreForm 0 2) [0] 3 = 0 ∧ Venn.spanV (Venn.moreForm 0 2) [0] 3 = (2, 3) := by decide +kernel
theorem reach_fact : spanVv (Venn.moreForm 0 2) [0] 3 = .tuple #[.agg #[.int .i64 2, .int .i64 3], .nilIface] := by
  rw [spanVv, reach_fact0.1, reach_fact0.2]; rfl
theorem setChk63 {u s : Int} (h : Venn.setChk u s = 0) : 0 ≤ s ∧ s ≤ 63 := by have := setChk_63 h; omega

set_option maxHeartbeats 4000000 in
set_option maxRecDepth 100000 in
theorem spanReached_walk (sa sc tv : Value) (l : List Venn.Atom) (c t : List Int) (u th a b d : Int) (w : World) (ha : IsAtoms w sa l) (hc : IsInts w sc c) (ht : IsInts w tv t) (hk : KindsOk w) :
    Calls Tryd.prog 8 #[.agg #[sa, sc], tv, .int .i64 u, .agg #[.int .i64 th, .int .i64 a, .int .i64 b, .int .i64 d]] w (Keeps (.bool true) w) := by
  obtain ⟨A, cA, rfl⟩ := ha.slice
  obtain ⟨C, cC, rfl⟩ := hc.slice
  obtain ⟨T, cT, rfl⟩ := ht.slice
  have HA := Lib.hid ha
  have HC := Lib.hid hc
  have HT := Lib.hid ht
  have HK := Lib.hid hk
  have HFA := Lib.hid reach_fact
  clear ha hc ht hk
  go_enter Tryd.func8, Tryd.ntmps8
  go_wp2_with fail
  refine (span_Of _ _ _ [⟨3, [0], [], 2⟩] [0] [0] 3 _ (IsAtoms.one (t := 56) (a := ⟨3, [0], [], 2⟩) (by repeat (first | (refine Blk.newAt ?_ _ _; simp; done) | refine Blk.alloc ?_ _)) (IsInts.of_blk1 (t := 3) (by repeat (first | (refine Blk.newAt ?_ _ _; simp; done) | refine Blk.alloc ?_ _))) (IsIntsNil _)) (IsInts.of_blk1 (t := 3) (by repeat (first | (refine Blk.newAt ?_ _ _; simp; done) | refine Blk.alloc ?_ _))) (IsInts.of_blk1 (t := 3) (by repeat (first | (refine Blk.newAt ?_ _ _; simp; done) | refine Blk.alloc ?_ _))) (HK.out.keep (by (repeat' (first | (with_reducible exact Below.refl _ _) | (with_reducible assumption) | (with_reducible refine Below.next ?_ (by with_reducible assumption)) | (with_reducible refine Below.drew ?_) | (with_reducible refine Below.laid ?_ _) | (with_reducible refine Below.setCell ?_ ?_ _) | (with_reducible refine size_of ?_) | (with_reducible refine Nat.le_succ_of_le ?_) | go_size))))).mono ?_
  rintro e w1 ⟨rfl, hb1⟩
  rw [HFA.out]
  have hw1 : Below w.heap.size w w1 := by (repeat' (first | (with_reducible exact Below.refl _ _) | (with_reducible assumption) | (with_reducible refine Below.next ?_ (by with_reducible assumption)) | (with_reducible refine Below.drew ?_) | (with_reducible refine Below.laid ?_ _) | (with_reducible refine Below.setCell ?_ ?_ _) | (with_reducible refine size_of ?_) | (with_reducible refine Nat.le_succ_of_le ?_) | go_size))
  have BF : Blk w1 w.heap.size 41 #[.slice A l.length cA, .slice C c.length cC] := Blk.keep (by repeat (first | exact Blk.new _ _ _ | refine Blk.alloc ?_ _)) hb1
  have BW : Blk w1 (w.heap.size + 1) 44 #[.int .i64 th, .int .i64 a, .int .i64 b, .int .i64 d] := Blk.keep (by repeat (first | (refine Blk.newAt ?_ _ _; simp; done) | refine Blk.alloc ?_ _)) hb1
  obtain ⟨⟨BF0, BF1⟩, _⟩ := BF.cells2
  have BFl := BF.lt
  obtain ⟨BW0, BW1, BW2, BW3⟩ := BW.cells4
  have BWl := BW.lt
  by_cases hs : ¬ Venn.spanChk ⟨l, c⟩ t u = 0
  · have HX := Lib.hid (spanVv_bad rfl hs)
    clear hs
    go_wp2_with fail
    refine (span_Of _ _ _ l c t u _ (HA.out.keep (by (repeat' (first | (with_reducible exact Below.refl _ _) | (with_reducible assumption) | (with_reducible refine Below.next ?_ (by with_reducible assumption)) | (with_reducible refine Below.drew ?_) | (with_reducible refine Below.laid ?_ _) | (with_reducible refine Below.setCell ?_ ?_ _) | (with_reducible refine size_of ?_) | (with_reducible refine Nat.le_succ_of_le ?_) | go_size)))) (HC.out.keep (by (repeat' (first | (with_reducible exact Below.refl _ _) | (with_reducible assumption) | (with_reducible refine Below.next ?_ (by with_reducible assumption)) | (with_reducible refine Below.drew ?_) | (with_reducible refine Below.laid ?_ _) | (with_reducible refine Below.setCell ?_ ?_ _) | (with_reducible refine size_of ?_) | (with_reducible refine Nat.le_succ_of_le ?_) | go_size)))) (HT.out.keep (by (repeat' (first | (with_reducible exact Below.refl _ _) | (with_reducible assumption) | (with_reducible refine Below.next ?_ (by with_reducible assumption)) | (with_reducible refine Below.drew ?_) | (with_reducible refine Below.laid ?_ _) | (with_reducible refine Below.setCell ?_ ?_ _) | (with_reducible refine size_of ?_) | (with_reducible refine Nat.le_succ_of_le ?_) | go_size)))) (HK.out.keep (by (repeat' (first | (with_reducible exact Below.refl _ _) | (with_reducible assumption) | (with_reducible refine Below.next ?_ (by with_reducible assumption)) | (with_reducible refine Below.drew ?_) | (with_reducible refine Below.laid ?_ _) | (with_reducible refine Below.setCell ?_ ?_ _) | (with_reducible refine size_of ?_) | (with_reducible refine Nat.le_succ_of_le ?_) | go_size))))).mono ?_
    rintro e w2 ⟨rfl, hb2⟩
    rw [HX.out]
    have hq2 : Below w1.heap.size w1 w2 := by (repeat' (first | (with_reducible exact Below.refl _ _) | (with_reducible assumption) | (with_reducible refine Below.next ?_ (by with_reducible assumption)) | (with_reducible refine Below.drew ?_) | (with_reducible refine Below.laid ?_ _) | (with_reducible refine Below.setCell ?_ ?_ _) | (with_reducible refine size_of ?_) | (with_reducible refine Nat.le_succ_of_le ?_) | go_size))
    have hw2 : Below w.heap.size w w2 := Below.next hw1 hq2
    go_wp2
    go_ret
    exact ⟨rfl, by (repeat' (first | (with_reducible exact Below.refl _ _) | (with_reducible assumption) | (with_reducible refine Below.next ?_ (by with_reducible assumption)) | (with_reducible refine Below.drew ?_) | (with_reducible refine Below.laid ?_ _) | (with_reducible refine Below.setCell ?_ ?_ _) | (with_reducible refine size_of ?_) | (with_reducible refine Nat.le_succ_of_le ?_) | go_size))⟩
  replace hs := Decidable.not_not.1 hs
  obtain ⟨⟨r0, r1, r2⟩, hR, ⟨c1, o1⟩, ⟨c2, o2⟩, ⟨c3, o3⟩, ⟨c4, o4⟩⟩ := Venn.span_reached hs
  have hft : Venn.formChk ⟨l, c⟩ = 0 ∧ Venn.termChk t = 0 ∧ Venn.things u = true := by
    unfold Venn.spanChk at hs
    split at hs
    · split at hs
      · split at hs
        · exact ⟨by assumption, by assumption, by assumption⟩
        · cases hs
      · contradiction
    · contradiction
  have HX := Lib.hid (show spanVv ⟨l, c⟩ t u = .tuple #[.agg #[.int .i64 (Venn.spanV ⟨l, c⟩ t u).1, .int .i64 (Venn.spanV ⟨l, c⟩ t u).2], .nilIface] by rw [spanVv, hs]; rfl)
  generalize Venn.spanV ⟨l, c⟩ t u = s at r0 r1 r2 hR c1 o1 c2 o2 c3 o3 c4 o4 HX
  obtain ⟨lo, hi⟩ := s
  simp only at r0 r1 r2 hR c1 o1 c2 o2 c3 o3 c4 o4 HX
  have HO1 := Lib.hid (openVv_ok c1 o1)
  have HO2 := Lib.hid (openVv_ok c2 o2)
  have HO3 := Lib.hid (openVv_ok c3 o3)
  have HO4 := Lib.hid (openVv_ok c4 o4)
  have HR := Lib.hid hR
  have HF := Lib.hid hft
  clear hs hR hft c1 o1 c2 o2 c3 o3 c4 o4
  go_wp2_with fail
  refine (span_Of _ _ _ l c t u _ (HA.out.keep (by (repeat' (first | (with_reducible exact Below.refl _ _) | (with_reducible assumption) | (with_reducible refine Below.next ?_ (by with_reducible assumption)) | (with_reducible refine Below.drew ?_) | (with_reducible refine Below.laid ?_ _) | (with_reducible refine Below.setCell ?_ ?_ _) | (with_reducible refine size_of ?_) | (with_reducible refine Nat.le_succ_of_le ?_) | go_size)))) (HC.out.keep (by (repeat' (first | (with_reducible exact Below.refl _ _) | (with_reducible assumption) | (with_reducible refine Below.next ?_ (by with_reducible assumption)) | (with_reducible refine Below.drew ?_) | (with_reducible refine Below.laid ?_ _) | (with_reducible refine Below.setCell ?_ ?_ _) | (with_reducible refine size_of ?_) | (with_reducible refine Nat.le_succ_of_le ?_) | go_size)))) (HT.out.keep (by (repeat' (first | (with_reducible exact Below.refl _ _) | (with_reducible assumption) | (with_reducible refine Below.next ?_ (by with_reducible assumption)) | (with_reducible refine Below.drew ?_) | (with_reducible refine Below.laid ?_ _) | (with_reducible refine Below.setCell ?_ ?_ _) | (with_reducible refine size_of ?_) | (with_reducible refine Nat.le_succ_of_le ?_) | go_size)))) (HK.out.keep (by (repeat' (first | (with_reducible exact Below.refl _ _) | (with_reducible assumption) | (with_reducible refine Below.next ?_ (by with_reducible assumption)) | (with_reducible refine Below.drew ?_) | (with_reducible refine Below.laid ?_ _) | (with_reducible refine Below.setCell ?_ ?_ _) | (with_reducible refine size_of ?_) | (with_reducible refine Nat.le_succ_of_le ?_) | go_size))))).mono ?_
  rintro e w2 ⟨rfl, hb2⟩
  rw [HX.out]
  have hq2 : Below w1.heap.size w1 w2 := by (repeat' (first | (with_reducible exact Below.refl _ _) | (with_reducible assumption) | (with_reducible refine Below.next ?_ (by with_reducible assumption)) | (with_reducible refine Below.drew ?_) | (with_reducible refine Below.laid ?_ _) | (with_reducible refine Below.setCell ?_ ?_ _) | (with_reducible refine size_of ?_) | (with_reducible refine Nat.le_succ_of_le ?_) | go_size))
  have hw2 : Below w.heap.size w w2 := Below.next hw1 hq2
  replace BF := BF.keep hq2
  try clear BF0 BF1 BFl
  obtain ⟨⟨BF0, BF1⟩, _⟩ := BF.cells2
  have BFl := BF.lt
  replace BW := BW.keep hq2
  try clear BW0 BW1 BW2 BW3 BWl
  obtain ⟨BW0, BW1, BW2, BW3⟩ := BW.cells4
  have BWl := BW.lt
  have BS := Blk.new w2 72 #[.int .i64 lo, .int .i64 hi]
  go_wp2_with fail
  refine (form_Holds _ _ l c _ _ _ _ _ (HA.out.keep (by (repeat' (first | (with_reducible exact Below.refl _ _) | (with_reducible assumption) | (with_reducible refine Below.next ?_ (by with_reducible assumption)) | (with_reducible refine Below.drew ?_) | (with_reducible refine Below.laid ?_ _) | (with_reducible refine Below.setCell ?_ ?_ _) | (with_reducible refine size_of ?_) | (with_reducible refine Nat.le_succ_of_le ?_) | go_size)))) (HC.out.keep (by (repeat' (first | (with_reducible exact Below.refl _ _) | (with_reducible assumption) | (with_reducible refine Below.next ?_ (by with_reducible assumption)) | (with_reducible refine Below.drew ?_) | (with_reducible refine Below.laid ?_ _) | (with_reducible refine Below.setCell ?_ ?_ _) | (with_reducible refine size_of ?_) | (with_reducible refine Nat.le_succ_of_le ?_) | go_size)))) (HK.out.keep (by (repeat' (first | (with_reducible exact Below.refl _ _) | (with_reducible assumption) | (with_reducible refine Below.next ?_ (by with_reducible assumption)) | (with_reducible refine Below.drew ?_) | (with_reducible refine Below.laid ?_ _) | (with_reducible refine Below.setCell ?_ ?_ _) | (with_reducible refine size_of ?_) | (with_reducible refine Nat.le_succ_of_le ?_) | go_size))))).mono ?_
  rintro e w3 ⟨rfl, hb3⟩
  have hq3 : Below w2.heap.size w2 w3 := by (repeat' (first | (with_reducible exact Below.refl _ _) | (with_reducible assumption) | (with_reducible refine Below.next ?_ (by with_reducible assumption)) | (with_reducible refine Below.drew ?_) | (with_reducible refine Below.laid ?_ _) | (with_reducible refine Below.setCell ?_ ?_ _) | (with_reducible refine size_of ?_) | (with_reducible refine Nat.le_succ_of_le ?_) | go_size))
  have hw3 : Below w.heap.size w w3 := Below.next hw2 hq3
  replace BF := BF.keep hq3
  try clear BF0 BF1 BFl
  obtain ⟨⟨BF0, BF1⟩, _⟩ := BF.cells2
  have BFl := BF.lt
  replace BW := BW.keep hq3
  try clear BW0 BW1 BW2 BW3 BWl
  obtain ⟨BW0, BW1, BW2, BW3⟩ := BW.cells4
  have BWl := BW.lt
  replace BS := BS.keep hb3
  go_wp2_with fail
  refine (term_Value _ t _ _ _ _ _ (HT.out.keep (by (repeat' (first | (with_reducible exact Below.refl _ _) | (with_reducible assumption) | (with_reducible refine Below.next ?_ (by with_reducible assumption)) | (with_reducible refine Below.drew ?_) | (with_reducible refine Below.laid ?_ _) | (with_reducible refine Below.setCell ?_ ?_ _) | (with_reducible refine size_of ?_) | (with_reducible refine Nat.le_succ_of_le ?_) | go_size))))).mono ?_
  rintro e w4 ⟨rfl, hb4⟩
  have hq4 : Below w3.heap.size w3 w4 := by (repeat' (first | (with_reducible exact Below.refl _ _) | (with_reducible assumption) | (with_reducible refine Below.next ?_ (by with_reducible assumption)) | (with_reducible refine Below.drew ?_) | (with_reducible refine Below.laid ?_ _) | (with_reducible refine Below.setCell ?_ ?_ _) | (with_reducible refine size_of ?_) | (with_reducible refine Nat.le_succ_of_le ?_) | go_size))
  have hw4 : Below w.heap.size w w4 := Below.next hw3 hq4
  replace BF := BF.keep hq4
  try clear BF0 BF1 BFl
  obtain ⟨⟨BF0, BF1⟩, _⟩ := BF.cells2
  have BFl := BF.lt
  replace BW := BW.keep hq4
  try clear BW0 BW1 BW2 BW3 BWl
  obtain ⟨BW0, BW1, BW2, BW3⟩ := BW.cells4
  have BWl := BW.lt
  replace BS := BS.keep hq4
  obtain ⟨⟨BS0, BS1⟩, _⟩ := BS.cells2
  have BSl := BS.lt
  by_cases hw : ¬ Venn.worldChk ⟨th, a, b, d⟩ = 0
  focus
    rw [show errV (Venn.formHoldsChk ⟨l, c⟩ ⟨th, a, b, d⟩) = .iface 101 (.int .i64 (Venn.worldChk ⟨th, a, b, d⟩)) by rw [Venn.formHoldsChk, if_pos HF.out.1, errV_ne hw]]
    clear hw
    generalize Venn.formHoldsV ⟨l, c⟩ ⟨th, a, b, d⟩ = hv
    generalize errV (Venn.valueChk t ⟨th, a, b, d⟩) = ev
    generalize Venn.valueV t ⟨th, a, b, d⟩ = vv
    go_upto_region 14 with (fail)
  rotate_left
  focus
    replace hw := Decidable.not_not.1 hw
    have hk1 : Venn.formHoldsChk ⟨l, c⟩ ⟨th, a, b, d⟩ = 0 := by rw [Venn.formHoldsChk, if_pos HF.out.1]; exact hw
    have hk2 : Venn.valueChk t ⟨th, a, b, d⟩ = 0 := by rw [Venn.valueChk, if_pos HF.out.2.1]; exact hw
    rw [errV_zero hk1, errV_zero hk2, show Venn.formHoldsV ⟨l, c⟩ ⟨th, a, b, d⟩ = Venn.formTrue ⟨l, c⟩ ⟨th, a, b, d⟩ by rw [Venn.formHoldsV, if_pos hk1], show Venn.valueV t ⟨th, a, b, d⟩ = Venn.termSet t ⟨th, a, b, d⟩ by rw [Venn.valueV, if_pos hk2]]
    have HZ := Lib.hid (setChk63 (Venn.termSet_right hw t))
    have HRW := Lib.hid (HR.out ⟨th, a, b, d⟩ hw)
    clear hw hk1 hk2
    generalize Venn.termSet t ⟨th, a, b, d⟩ = V at HZ HRW ⊢
    cases hT : Venn.formTrue ⟨l, c⟩ ⟨th, a, b, d⟩
    focus
      clear hT HRW HZ
      go_upto_region 14 with (fail)
    rotate_left
    by_cases hu : th = u
    focus
      obtain ⟨g1, g2⟩ := HRW.out hu hT
      have hq : (th == u) = true := by simpa using hu
      have n1 : ¬ Venn.many V < lo := by omega
      have n2 : ¬ hi < Venn.many V := by omega
      have HSZ := Lib.hid (fun W => ref_Size V W HZ.out)
      clear hT hu g1 g2 HRW HZ
      generalize Venn.many V = MV at n1 n2 HSZ
      go_upto_region 14 with (go_at_call 39; refine (HSZ.out _).mono ?_; rintro e w' ⟨rfl, rfl⟩)
      clear hq n1 n2 HSZ
    rotate_left
    focus
      have hq : (th == u) = false := by simpa using hu
      clear hT hu HRW HZ
      go_upto_region 14 with (fail)
      clear hq
  all_goals
    clear BW0 BW1 BW2 BW3 BWl BW
    have n1 : ¬ lo < 0 := by omega
    have n2 : ¬ 6 < hi := by omega
    have n3 : ¬ hi < lo := by omega
    have b1 : lo ≤ 6 := by omega
    have b2 : 0 ≤ hi := by omega
    go_upto_region 17 with (fail)
    obtain ⟨F5, hq5⟩ := FormAt.one w4 4 (lo) (.slice T t.length cT) t (HT.out.keep (by (repeat' (first | (with_reducible exact Below.refl _ _) | (with_reducible assumption) | (with_reducible refine Below.next ?_ (by with_reducible assumption)) | (with_reducible refine Below.drew ?_) | (with_reducible refine Below.laid ?_ _) | (with_reducible refine Below.setCell ?_ ?_ _) | (with_reducible refine size_of ?_) | (with_reducible refine Nat.le_succ_of_le ?_) | go_size))))
    revert F5 hq5
    generalize World.alloc _ _ = w5
    intro F5 hq5
    have hw5 := Below.next hw4 hq5
    clear BF0 BF1 BFl BS0 BS1 BSl
    replace BF := BF.keep hq5
    replace BS := BS.keep hq5
    obtain ⟨⟨BF0, BF1⟩, _⟩ := BF.cells2
    have BFl := BF.lt
    obtain ⟨⟨BS0, BS1⟩, _⟩ := BS.cells2
    have BSl := BS.lt
    go_upto_region 18 with (fail)
    obtain ⟨F6, hq6⟩ := FormAt.one w5 3 (hi) (.slice T t.length cT) t (HT.out.keep (by (repeat' (first | (with_reducible exact Below.refl _ _) | (with_reducible assumption) | (with_reducible refine Below.next ?_ (by with_reducible assumption)) | (with_reducible refine Below.drew ?_) | (with_reducible refine Below.laid ?_ _) | (with_reducible refine Below.setCell ?_ ?_ _) | (with_reducible refine size_of ?_) | (with_reducible refine Nat.le_succ_of_le ?_) | go_size))))
    revert F6 hq6
    generalize World.alloc _ _ = w6
    intro F6 hq6
    have hw6 := Below.next hw5 hq6
    clear BF0 BF1 BFl BS0 BS1 BSl
    replace BF := BF.keep hq6
    replace BS := BS.keep hq6
    obtain ⟨⟨BF0, BF1⟩, _⟩ := BF.cells2
    have BFl := BF.lt
    obtain ⟨⟨BS0, BS1⟩, _⟩ := BS.cells2
    have BSl := BS.lt
    replace F5 := F5.keep hq6
    go_upto_region 19 with (fail)
    obtain ⟨F7, hq7⟩ := FormAt.one w6 4 (lo - 1) (.slice T t.length cT) t (HT.out.keep (by (repeat' (first | (with_reducible exact Below.refl _ _) | (with_reducible assumption) | (with_reducible refine Below.next ?_ (by with_reducible assumption)) | (with_reducible refine Below.drew ?_) | (with_reducible refine Below.laid ?_ _) | (with_reducible refine Below.setCell ?_ ?_ _) | (with_reducible refine size_of ?_) | (with_reducible refine Nat.le_succ_of_le ?_) | go_size))))
    revert F7 hq7
    generalize World.alloc _ _ = w7
    intro F7 hq7
    have hw7 := Below.next hw6 hq7
    clear BF0 BF1 BFl BS0 BS1 BSl
    replace BF := BF.keep hq7
    replace BS := BS.keep hq7
    obtain ⟨⟨BF0, BF1⟩, _⟩ := BF.cells2
    have BFl := BF.lt
    obtain ⟨⟨BS0, BS1⟩, _⟩ := BS.cells2
    have BSl := BS.lt
    replace F5 := F5.keep hq7
    replace F6 := F6.keep hq7
    go_upto_region 20 with (fail)
    obtain ⟨F8, hq8⟩ := FormAt.one w7 3 (hi + 1) (.slice T t.length cT) t (HT.out.keep (by (repeat' (first | (with_reducible exact Below.refl _ _) | (with_reducible assumption) | (with_reducible refine Below.next ?_ (by with_reducible assumption)) | (with_reducible refine Below.drew ?_) | (with_reducible refine Below.laid ?_ _) | (with_reducible refine Below.setCell ?_ ?_ _) | (with_reducible refine size_of ?_) | (with_reducible refine Nat.le_succ_of_le ?_) | go_size))))
    revert F8 hq8
    generalize World.alloc _ _ = w8
    intro F8 hq8
    have hw8 := Below.next hw7 hq8
    clear BF0 BF1 BFl BS0 BS1 BSl
    replace BF := BF.keep hq8
    replace BS := BS.keep hq8
    obtain ⟨⟨BF0, BF1⟩, _⟩ := BF.cells2
    have BFl := BF.lt
    obtain ⟨⟨BS0, BS1⟩, _⟩ := BS.cells2
    have BSl := BS.lt
    replace F5 := F5.keep hq8
    replace F6 := F6.keep hq8
    replace F7 := F7.keep hq8
    clear BS0 BS1 BSl n1 n2 n3
    obtain ⟨⟨x0, x1⟩, _⟩ := F5.box.cells2
    have xl := F5.box.lt
    go_wp2_with fail
    refine (core_Open _ [⟨l, c⟩, Venn.numForm 4 t (lo)] u _ (IsForms.two (Blk.new _ _ _) (HA.out.keep (by (repeat' (first | (with_reducible exact Below.refl _ _) | (with_reducible assumption) | (with_reducible refine Below.next ?_ (by with_reducible assumption)) | (with_reducible refine Below.drew ?_) | (with_reducible refine Below.laid ?_ _) | (with_reducible refine Below.setCell ?_ ?_ _) | (with_reducible refine size_of ?_) | (with_reducible refine Nat.le_succ_of_le ?_) | go_size)))) (HC.out.keep (by (repeat' (first | (with_reducible exact Below.refl _ _) | (with_reducible assumption) | (with_reducible refine Below.next ?_ (by with_reducible assumption)) | (with_reducible refine Below.drew ?_) | (with_reducible refine Below.laid ?_ _) | (with_reducible refine Below.setCell ?_ ?_ _) | (with_reducible refine size_of ?_) | (with_reducible refine Nat.le_succ_of_le ?_) | go_size)))) (F5.ha.keep (by (repeat' (first | (with_reducible exact Below.refl _ _) | (with_reducible assumption) | (with_reducible refine Below.next ?_ (by with_reducible assumption)) | (with_reducible refine Below.drew ?_) | (with_reducible refine Below.laid ?_ _) | (with_reducible refine Below.setCell ?_ ?_ _) | (with_reducible refine size_of ?_) | (with_reducible refine Nat.le_succ_of_le ?_) | go_size)))) (F5.hc.keep (by (repeat' (first | (with_reducible exact Below.refl _ _) | (with_reducible assumption) | (with_reducible refine Below.next ?_ (by with_reducible assumption)) | (with_reducible refine Below.drew ?_) | (with_reducible refine Below.laid ?_ _) | (with_reducible refine Below.setCell ?_ ?_ _) | (with_reducible refine size_of ?_) | (with_reducible refine Nat.le_succ_of_le ?_) | go_size))))) (HK.out.keep (by (repeat' (first | (with_reducible exact Below.refl _ _) | (with_reducible assumption) | (with_reducible refine Below.next ?_ (by with_reducible assumption)) | (with_reducible refine Below.drew ?_) | (with_reducible refine Below.laid ?_ _) | (with_reducible refine Below.setCell ?_ ?_ _) | (with_reducible refine size_of ?_) | (with_reducible refine Nat.le_succ_of_le ?_) | go_size))))).mono ?_
    rintro e w9 ⟨rfl, hb9⟩
    rw [HO1.out]
    have hq9 : Below w8.heap.size w8 w9 := by (repeat' (first | (with_reducible exact Below.refl _ _) | (with_reducible assumption) | (with_reducible refine Below.next ?_ (by with_reducible assumption)) | (with_reducible refine Below.drew ?_) | (with_reducible refine Below.laid ?_ _) | (with_reducible refine Below.setCell ?_ ?_ _) | (with_reducible refine size_of ?_) | (with_reducible refine Nat.le_succ_of_le ?_) | go_size))
    have hw9 := Below.next hw8 hq9
    clear x0 x1 xl BF0 BF1 BFl
    replace BF := BF.keep hq9
    obtain ⟨⟨BF0, BF1⟩, _⟩ := BF.cells2
    have BFl := BF.lt
    replace F6 := F6.keep hq9
    replace F7 := F7.keep hq9
    replace F8 := F8.keep hq9
    obtain ⟨⟨x0, x1⟩, _⟩ := F6.box.cells2
    have xl := F6.box.lt
    go_wp2_with fail
    refine (core_Open _ [⟨l, c⟩, Venn.numForm 3 t (hi)] u _ (IsForms.two (Blk.new _ _ _) (HA.out.keep (by (repeat' (first | (with_reducible exact Below.refl _ _) | (with_reducible assumption) | (with_reducible refine Below.next ?_ (by with_reducible assumption)) | (with_reducible refine Below.drew ?_) | (with_reducible refine Below.laid ?_ _) | (with_reducible refine Below.setCell ?_ ?_ _) | (with_reducible refine size_of ?_) | (with_reducible refine Nat.le_succ_of_le ?_) | go_size)))) (HC.out.keep (by (repeat' (first | (with_reducible exact Below.refl _ _) | (with_reducible assumption) | (with_reducible refine Below.next ?_ (by with_reducible assumption)) | (with_reducible refine Below.drew ?_) | (with_reducible refine Below.laid ?_ _) | (with_reducible refine Below.setCell ?_ ?_ _) | (with_reducible refine size_of ?_) | (with_reducible refine Nat.le_succ_of_le ?_) | go_size)))) (F6.ha.keep (by (repeat' (first | (with_reducible exact Below.refl _ _) | (with_reducible assumption) | (with_reducible refine Below.next ?_ (by with_reducible assumption)) | (with_reducible refine Below.drew ?_) | (with_reducible refine Below.laid ?_ _) | (with_reducible refine Below.setCell ?_ ?_ _) | (with_reducible refine size_of ?_) | (with_reducible refine Nat.le_succ_of_le ?_) | go_size)))) (F6.hc.keep (by (repeat' (first | (with_reducible exact Below.refl _ _) | (with_reducible assumption) | (with_reducible refine Below.next ?_ (by with_reducible assumption)) | (with_reducible refine Below.drew ?_) | (with_reducible refine Below.laid ?_ _) | (with_reducible refine Below.setCell ?_ ?_ _) | (with_reducible refine size_of ?_) | (with_reducible refine Nat.le_succ_of_le ?_) | go_size))))) (HK.out.keep (by (repeat' (first | (with_reducible exact Below.refl _ _) | (with_reducible assumption) | (with_reducible refine Below.next ?_ (by with_reducible assumption)) | (with_reducible refine Below.drew ?_) | (with_reducible refine Below.laid ?_ _) | (with_reducible refine Below.setCell ?_ ?_ _) | (with_reducible refine size_of ?_) | (with_reducible refine Nat.le_succ_of_le ?_) | go_size))))).mono ?_
    rintro e w10 ⟨rfl, hb10⟩
    rw [HO2.out]
    have hq10 : Below w9.heap.size w9 w10 := by (repeat' (first | (with_reducible exact Below.refl _ _) | (with_reducible assumption) | (with_reducible refine Below.next ?_ (by with_reducible assumption)) | (with_reducible refine Below.drew ?_) | (with_reducible refine Below.laid ?_ _) | (with_reducible refine Below.setCell ?_ ?_ _) | (with_reducible refine size_of ?_) | (with_reducible refine Nat.le_succ_of_le ?_) | go_size))
    have hw10 := Below.next hw9 hq10
    clear x0 x1 xl BF0 BF1 BFl
    replace BF := BF.keep hq10
    obtain ⟨⟨BF0, BF1⟩, _⟩ := BF.cells2
    have BFl := BF.lt
    replace F7 := F7.keep hq10
    replace F8 := F8.keep hq10
    obtain ⟨⟨x0, x1⟩, _⟩ := F7.box.cells2
    have xl := F7.box.lt
    go_wp2_with fail
    refine (core_Open _ [⟨l, c⟩, Venn.numForm 4 t (lo - 1)] u _ (IsForms.two (Blk.new _ _ _) (HA.out.keep (by (repeat' (first | (with_reducible exact Below.refl _ _) | (with_reducible assumption) | (with_reducible refine Below.next ?_ (by with_reducible assumption)) | (with_reducible refine Below.drew ?_) | (with_reducible refine Below.laid ?_ _) | (with_reducible refine Below.setCell ?_ ?_ _) | (with_reducible refine size_of ?_) | (with_reducible refine Nat.le_succ_of_le ?_) | go_size)))) (HC.out.keep (by (repeat' (first | (with_reducible exact Below.refl _ _) | (with_reducible assumption) | (with_reducible refine Below.next ?_ (by with_reducible assumption)) | (with_reducible refine Below.drew ?_) | (with_reducible refine Below.laid ?_ _) | (with_reducible refine Below.setCell ?_ ?_ _) | (with_reducible refine size_of ?_) | (with_reducible refine Nat.le_succ_of_le ?_) | go_size)))) (F7.ha.keep (by (repeat' (first | (with_reducible exact Below.refl _ _) | (with_reducible assumption) | (with_reducible refine Below.next ?_ (by with_reducible assumption)) | (with_reducible refine Below.drew ?_) | (with_reducible refine Below.laid ?_ _) | (with_reducible refine Below.setCell ?_ ?_ _) | (with_reducible refine size_of ?_) | (with_reducible refine Nat.le_succ_of_le ?_) | go_size)))) (F7.hc.keep (by (repeat' (first | (with_reducible exact Below.refl _ _) | (with_reducible assumption) | (with_reducible refine Below.next ?_ (by with_reducible assumption)) | (with_reducible refine Below.drew ?_) | (with_reducible refine Below.laid ?_ _) | (with_reducible refine Below.setCell ?_ ?_ _) | (with_reducible refine size_of ?_) | (with_reducible refine Nat.le_succ_of_le ?_) | go_size))))) (HK.out.keep (by (repeat' (first | (with_reducible exact Below.refl _ _) | (with_reducible assumption) | (with_reducible refine Below.next ?_ (by with_reducible assumption)) | (with_reducible refine Below.drew ?_) | (with_reducible refine Below.laid ?_ _) | (with_reducible refine Below.setCell ?_ ?_ _) | (with_reducible refine size_of ?_) | (with_reducible refine Nat.le_succ_of_le ?_) | go_size))))).mono ?_
    rintro e w11 ⟨rfl, hb11⟩
    rw [HO3.out]
    have hq11 : Below w10.heap.size w10 w11 := by (repeat' (first | (with_reducible exact Below.refl _ _) | (with_reducible assumption) | (with_reducible refine Below.next ?_ (by with_reducible assumption)) | (with_reducible refine Below.drew ?_) | (with_reducible refine Below.laid ?_ _) | (with_reducible refine Below.setCell ?_ ?_ _) | (with_reducible refine size_of ?_) | (with_reducible refine Nat.le_succ_of_le ?_) | go_size))
    have hw11 := Below.next hw10 hq11
    clear x0 x1 xl BF0 BF1 BFl
    replace BF := BF.keep hq11
    obtain ⟨⟨BF0, BF1⟩, _⟩ := BF.cells2
    have BFl := BF.lt
    replace F8 := F8.keep hq11
    obtain ⟨⟨x0, x1⟩, _⟩ := F8.box.cells2
    have xl := F8.box.lt
    go_wp2_with fail
    refine (core_Open _ [⟨l, c⟩, Venn.numForm 3 t (hi + 1)] u _ (IsForms.two (Blk.new _ _ _) (HA.out.keep (by (repeat' (first | (with_reducible exact Below.refl _ _) | (with_reducible assumption) | (with_reducible refine Below.next ?_ (by with_reducible assumption)) | (with_reducible refine Below.drew ?_) | (with_reducible refine Below.laid ?_ _) | (with_reducible refine Below.setCell ?_ ?_ _) | (with_reducible refine size_of ?_) | (with_reducible refine Nat.le_succ_of_le ?_) | go_size)))) (HC.out.keep (by (repeat' (first | (with_reducible exact Below.refl _ _) | (with_reducible assumption) | (with_reducible refine Below.next ?_ (by with_reducible assumption)) | (with_reducible refine Below.drew ?_) | (with_reducible refine Below.laid ?_ _) | (with_reducible refine Below.setCell ?_ ?_ _) | (with_reducible refine size_of ?_) | (with_reducible refine Nat.le_succ_of_le ?_) | go_size)))) (F8.ha.keep (by (repeat' (first | (with_reducible exact Below.refl _ _) | (with_reducible assumption) | (with_reducible refine Below.next ?_ (by with_reducible assumption)) | (with_reducible refine Below.drew ?_) | (with_reducible refine Below.laid ?_ _) | (with_reducible refine Below.setCell ?_ ?_ _) | (with_reducible refine size_of ?_) | (with_reducible refine Nat.le_succ_of_le ?_) | go_size)))) (F8.hc.keep (by (repeat' (first | (with_reducible exact Below.refl _ _) | (with_reducible assumption) | (with_reducible refine Below.next ?_ (by with_reducible assumption)) | (with_reducible refine Below.drew ?_) | (with_reducible refine Below.laid ?_ _) | (with_reducible refine Below.setCell ?_ ?_ _) | (with_reducible refine size_of ?_) | (with_reducible refine Nat.le_succ_of_le ?_) | go_size))))) (HK.out.keep (by (repeat' (first | (with_reducible exact Below.refl _ _) | (with_reducible assumption) | (with_reducible refine Below.next ?_ (by with_reducible assumption)) | (with_reducible refine Below.drew ?_) | (with_reducible refine Below.laid ?_ _) | (with_reducible refine Below.setCell ?_ ?_ _) | (with_reducible refine size_of ?_) | (with_reducible refine Nat.le_succ_of_le ?_) | go_size))))).mono ?_
    rintro e w12 ⟨rfl, hb12⟩
    rw [HO4.out]
    have hq12 : Below w11.heap.size w11 w12 := by (repeat' (first | (with_reducible exact Below.refl _ _) | (with_reducible assumption) | (with_reducible refine Below.next ?_ (by with_reducible assumption)) | (with_reducible refine Below.drew ?_) | (with_reducible refine Below.laid ?_ _) | (with_reducible refine Below.setCell ?_ ?_ _) | (with_reducible refine size_of ?_) | (with_reducible refine Nat.le_succ_of_le ?_) | go_size))
    have hw12 := Below.next hw11 hq12
    clear x0 x1 xl BF0 BF1 BFl
    replace BF := BF.keep hq12
    obtain ⟨⟨BF0, BF1⟩, _⟩ := BF.cells2
    have BFl := BF.lt
    go_wp2
    go_ret
    exact ⟨rfl, hw12⟩
end Go.Proofs.YtnjamgmaclmlpaaDoor
