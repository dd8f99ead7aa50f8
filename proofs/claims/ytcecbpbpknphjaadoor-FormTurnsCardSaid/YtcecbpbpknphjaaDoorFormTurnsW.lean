/-
  THE WALK of vennlaw1.FormTurns.
-/
import Derived.Test.YtcecbpbpknphjaaDoorBoth
import Derived.Test.YtcecbpbpknphjaaDoorFormHolds
import Derived.Test.YtcecbpbpknphjaaDoorLawF
import Derived.Deep.DeepCutAuto
namespace Go.Proofs.YtcecbpbpknphjaaDoor
open Go.RowKit

theorem turns_fact : Value.tuple #[.bool (Venn.formHoldsV ⟨[⟨3, [0], [], 1⟩], [0]⟩ ⟨1, 1, 0, 0⟩), errV (Venn.formHoldsChk ⟨[⟨3, [0], [], 1⟩], [0]⟩ ⟨1, 1, 0, 0⟩)] = .tuple #[.bool true, .nilIface] := by
  rw [show Venn.formHoldsV ⟨[⟨3, [0], [], 1⟩], [0]⟩ ⟨1, 1, 0, 0⟩ = true by decide, show Venn.formHoldsChk ⟨[⟨3, [0], [], 1⟩], [0]⟩ ⟨1, 1, 0, 0⟩ = 0 by decide]; rfl
theorem turns_none : Value.tuple #[.bool (Venn.formHoldsV ⟨[⟨3, [0], [], 1⟩], [0]⟩ ⟨1, 0, 0, 0⟩), errV (Venn.formHoldsChk ⟨[⟨3, [0], [], 1⟩], [0]⟩ ⟨1, 0, 0, 0⟩)] = .tuple #[.bool false, .nilIface] := by
  rw [show Venn.formHoldsV ⟨[⟨3, [0], [], 1⟩], [0]⟩ ⟨1, 0, 0, 0⟩ = false by decide, show Venn.formHoldsChk ⟨[⟨3, [0], [], 1⟩], [0]⟩ ⟨1, 0, 0, 0⟩ = 0 by decide]; rfl
theorem holds_ok {l : List Venn.Atom} {c : List Int} {W : Venn.World} (h1 : Venn.formChk ⟨l, c⟩ = 0) (h2 : Venn.worldChk W = 0) : Value.tuple #[.bool (Venn.formHoldsV ⟨l, c⟩ W), errV (Venn.formHoldsChk ⟨l, c⟩ W)] = .tuple #[.bool (Venn.formTrue ⟨l, c⟩ W), .nilIface] := by
  have h3 : Venn.formHoldsChk ⟨l, c⟩ W = 0 := by rw [Venn.formHoldsChk, if_pos h1, h2]
  rw [Venn.formHoldsV, if_pos h3, h3]; rfl
theorem holds_bad {l : List Venn.Atom} {c : List Int} {W : Venn.World} (h : ¬ Venn.formHoldsChk ⟨l, c⟩ W = 0) : Value.tuple #[.bool (Venn.formHoldsV ⟨l, c⟩ W), errV (Venn.formHoldsChk ⟨l, c⟩ W)] = .tuple #[.bool false, .iface 97 (.int .i64 (Venn.formHoldsChk ⟨l, c⟩ W))] := by
  rw [Venn.formHoldsV, if_neg h, errV_ne h]

set_option maxHeartbeats 8000000 in
set_option maxRecDepth 100000 in
theorem formTurns_walk (sa sc sb sd : Value) (l m : List Venn.Atom) (c d : List Int) (th x y z : Int) (w : World) (ha : IsAtoms w sa l) (hc : IsInts w sc c) (hb : IsAtoms w sb m) (hd : IsInts w sd d) (hk : KindsOk w) :
    Calls Tryd.prog 3 #[.agg #[sa, sc], .agg #[.int .i64 th, .int .i64 x, .int .i64 y, .int .i64 z], .agg #[sb, sd]] w (Keeps (.bool true) w) := by
  obtain ⟨A, cA, rfl⟩ := ha.slice
  obtain ⟨C, cC, rfl⟩ := hc.slice
  obtain ⟨B, cB, rfl⟩ := hb.slice
  obtain ⟨D, cD, rfl⟩ := hd.slice
  have HA := Lib.hid ha
  have HC := Lib.hid hc
  have HB := Lib.hid hb
  have HD := Lib.hid hd
  have HK := Lib.hid hk
  clear ha hc hb hd hk
  have HFA := Lib.hid turns_fact
  have HFN := Lib.hid turns_none
  go_enter Tryd.func3, Tryd.ntmps3
  go_wp2_with fail
  refine (form_Holds _ _ [⟨3, [0], [], 1⟩] [0] 1 1 0 0 _ (IsAtoms.one (t := 30) (a := ⟨3, [0], [], 1⟩) (by repeat (first | (refine Blk.newAt ?_ _ _; simp; done) | refine Blk.alloc ?_ _)) (IsInts.of_blk1 (t := 3) (by repeat (first | (refine Blk.newAt ?_ _ _; simp; done) | refine Blk.alloc ?_ _))) (IsIntsNil _)) (IsInts.of_blk1 (t := 3) (by repeat (first | (refine Blk.newAt ?_ _ _; simp; done) | refine Blk.alloc ?_ _))) (HK.out.keep (by (repeat' (first | (with_reducible exact Below.refl _ _) | (with_reducible assumption) | (with_reducible refine Below.next ?_ (by with_reducible assumption)) | (with_reducible refine Below.drew ?_) | (with_reducible refine Below.laid ?_ _) | (with_reducible refine Below.setCell ?_ ?_ _) | (with_reducible refine size_of ?_) | (with_reducible refine Nat.le_succ_of_le ?_) | go_size))))).mono ?_
  rintro e w1 ⟨rfl, hb1⟩
  rw [HFA.out]
  have hw1 : Below w.heap.size w w1 := by (repeat' (first | (with_reducible exact Below.refl _ _) | (with_reducible assumption) | (with_reducible refine Below.next ?_ (by with_reducible assumption)) | (with_reducible refine Below.drew ?_) | (with_reducible refine Below.laid ?_ _) | (with_reducible refine Below.setCell ?_ ?_ _) | (with_reducible refine size_of ?_) | (with_reducible refine Nat.le_succ_of_le ?_) | go_size))
  have BF : Blk w1 w.heap.size 25 #[.slice A l.length cA, .slice C c.length cC] := Blk.keep (by repeat (first | exact Blk.new _ _ _ | refine Blk.alloc ?_ _)) hb1
  have BW : Blk w1 (w.heap.size + 1) 28 #[.int .i64 th, .int .i64 x, .int .i64 y, .int .i64 z] := Blk.keep (by repeat (first | (refine Blk.newAt ?_ _ _; simp; done) | refine Blk.alloc ?_ _)) hb1
  have BG : Blk w1 (w.heap.size + 1 + 1) 25 #[.slice B m.length cB, .slice D d.length cD] := Blk.keep (by repeat (first | (refine Blk.newAt ?_ _ _; simp; done) | refine Blk.alloc ?_ _)) hb1
  have BI : Blk w1 (w.heap.size + 1 + 1 + 1) 3 #[.int .i64 0] := Blk.keep (by repeat (first | (refine Blk.newAt ?_ _ _; simp; done) | refine Blk.alloc ?_ _)) hb1
  have BA : Blk w1 (w.heap.size + 1 + 1 + 1 + 1) 30 #[.int .i64 3, .slice (some ⟨w.heap.size + 1 + 1 + 1, 0, none⟩) 1 1, .slice none 0 0, .int .i64 1] := Blk.keep (by repeat (first | (refine Blk.newAt ?_ _ _; simp; done) | refine Blk.alloc ?_ _)) hb1
  have BC : Blk w1 (w.heap.size + 1 + 1 + 1 + 1 + 1) 3 #[.int .i64 0] := Blk.keep (by repeat (first | (refine Blk.newAt ?_ _ _; simp; done) | refine Blk.alloc ?_ _)) hb1
  have BO : Blk w1 (w.heap.size + 1 + 1 + 1 + 1 + 1 + 1) 25 #[.slice (some ⟨w.heap.size + 1 + 1 + 1 + 1, 0, none⟩) 1 1, .slice (some ⟨w.heap.size + 1 + 1 + 1 + 1 + 1, 0, none⟩) 1 1] := Blk.keep (by repeat (first | (refine Blk.newAt ?_ _ _; simp; done) | refine Blk.alloc ?_ _)) hb1
  have HON := Lib.hid (And.intro (IsAtoms.one (a := ⟨3, [0], [], 1⟩) BA (IsInts.of_blk1 BI) (IsIntsNil _)) (IsInts.of_blk1 BC))
  clear BI BA BC hb1
  obtain ⟨⟨BF0, BF1⟩, _⟩ := BF.cells2
  have BFl := BF.lt
  obtain ⟨BW0, BW1, BW2, BW3⟩ := BW.cells4
  have BWl := BW.lt
  obtain ⟨⟨BG0, BG1⟩, _⟩ := BG.cells2
  have BGl := BG.lt
  obtain ⟨⟨BO0, BO1⟩, _⟩ := BO.cells2
  have BOl := BO.lt
  go_wp2_with fail
  refine (form_Holds _ _ [⟨3, [0], [], 1⟩] [0] 1 0 0 0 _ (HON.out.1.keep (by (repeat' (first | (with_reducible exact Below.refl _ _) | (with_reducible assumption) | (with_reducible refine Below.next ?_ (by with_reducible assumption)) | (with_reducible refine Below.drew ?_) | (with_reducible refine Below.laid ?_ _) | (with_reducible refine Below.setCell ?_ ?_ _) | (with_reducible refine size_of ?_) | (with_reducible refine Nat.le_succ_of_le ?_) | go_size)))) (HON.out.2.keep (by (repeat' (first | (with_reducible exact Below.refl _ _) | (with_reducible assumption) | (with_reducible refine Below.next ?_ (by with_reducible assumption)) | (with_reducible refine Below.drew ?_) | (with_reducible refine Below.laid ?_ _) | (with_reducible refine Below.setCell ?_ ?_ _) | (with_reducible refine size_of ?_) | (with_reducible refine Nat.le_succ_of_le ?_) | go_size)))) (HK.out.keep (by (repeat' (first | (with_reducible exact Below.refl _ _) | (with_reducible assumption) | (with_reducible refine Below.next ?_ (by with_reducible assumption)) | (with_reducible refine Below.drew ?_) | (with_reducible refine Below.laid ?_ _) | (with_reducible refine Below.setCell ?_ ?_ _) | (with_reducible refine size_of ?_) | (with_reducible refine Nat.le_succ_of_le ?_) | go_size))))).mono ?_
  rintro e w2 ⟨rfl, hb2⟩
  rw [HFN.out]
  have hq2 : Below w1.heap.size w1 w2 := by (repeat' (first | (with_reducible exact Below.refl _ _) | (with_reducible assumption) | (with_reducible refine Below.next ?_ (by with_reducible assumption)) | (with_reducible refine Below.drew ?_) | (with_reducible refine Below.laid ?_ _) | (with_reducible refine Below.setCell ?_ ?_ _) | (with_reducible refine size_of ?_) | (with_reducible refine Nat.le_succ_of_le ?_) | go_size))
  have hw2 : Below w.heap.size w w2 := Below.next hw1 hq2
  replace BF := BF.keep hq2
  try clear BF0 BF1 BFl
  obtain ⟨⟨BF0, BF1⟩, _⟩ := BF.cells2
  have BFl := BF.lt
  replace BW := BW.keep hq2
  try clear BW0 BW1 BW2 BW3 BWl
  obtain ⟨BW0, BW1, BW2, BW3⟩ := BW.cells4
  have BWl := BW.lt
  replace BG := BG.keep hq2
  try clear BG0 BG1 BGl
  obtain ⟨⟨BG0, BG1⟩, _⟩ := BG.cells2
  have BGl := BG.lt
  clear BO BO0 BO1 BOl HON HFA HFN
  by_cases h1 : ¬ Venn.formHoldsChk ⟨l, c⟩ ⟨th, x, y, z⟩ = 0
  · have HX := Lib.hid (holds_bad h1)
    clear h1
    go_wp2_with fail
    refine (form_Holds _ _ l c _ _ _ _ _ (HA.out.keep (by (repeat' (first | (with_reducible exact Below.refl _ _) | (with_reducible assumption) | (with_reducible refine Below.next ?_ (by with_reducible assumption)) | (with_reducible refine Below.drew ?_) | (with_reducible refine Below.laid ?_ _) | (with_reducible refine Below.setCell ?_ ?_ _) | (with_reducible refine size_of ?_) | (with_reducible refine Nat.le_succ_of_le ?_) | go_size)))) (HC.out.keep (by (repeat' (first | (with_reducible exact Below.refl _ _) | (with_reducible assumption) | (with_reducible refine Below.next ?_ (by with_reducible assumption)) | (with_reducible refine Below.drew ?_) | (with_reducible refine Below.laid ?_ _) | (with_reducible refine Below.setCell ?_ ?_ _) | (with_reducible refine size_of ?_) | (with_reducible refine Nat.le_succ_of_le ?_) | go_size)))) (HK.out.keep (by (repeat' (first | (with_reducible exact Below.refl _ _) | (with_reducible assumption) | (with_reducible refine Below.next ?_ (by with_reducible assumption)) | (with_reducible refine Below.drew ?_) | (with_reducible refine Below.laid ?_ _) | (with_reducible refine Below.setCell ?_ ?_ _) | (with_reducible refine size_of ?_) | (with_reducible refine Nat.le_succ_of_le ?_) | go_size))))).mono ?_
    rintro e w3 ⟨rfl, hb3⟩
    rw [HX.out]
    have hq3 : Below w2.heap.size w2 w3 := by (repeat' (first | (with_reducible exact Below.refl _ _) | (with_reducible assumption) | (with_reducible refine Below.next ?_ (by with_reducible assumption)) | (with_reducible refine Below.drew ?_) | (with_reducible refine Below.laid ?_ _) | (with_reducible refine Below.setCell ?_ ?_ _) | (with_reducible refine size_of ?_) | (with_reducible refine Nat.le_succ_of_le ?_) | go_size))
    have hw3 : Below w.heap.size w w3 := Below.next hw2 hq3
    go_wp2
    go_ret
    exact ⟨rfl, hw3⟩
  replace h1 := Decidable.not_not.1 h1
  obtain ⟨hf, hw⟩ : Venn.formChk ⟨l, c⟩ = 0 ∧ Venn.worldChk ⟨th, x, y, z⟩ = 0 := by
    unfold Venn.formHoldsChk at h1
    split at h1
    · exact ⟨by assumption, h1⟩
    · contradiction
  have HX1 := Lib.hid (holds_ok hf hw)
  have HF := Lib.hid hf
  have HW := Lib.hid hw
  have HNT := Lib.hid (Venn.negF_true hf ⟨th, x, y, z⟩)
  have HNC := Lib.hid (fun h => Venn.negF_chk hf h)
  obtain ⟨V1, hV1⟩ : ∃ V, V = Venn.formTrue ⟨l, c⟩ ⟨th, x, y, z⟩ := ⟨_, rfl⟩
  rw [← hV1] at HX1 HNT
  have HV1 := Lib.hid hV1
  have hc20 := (form_small hf).2.1.2
  clear h1 hf hw hV1
  go_wp2_with fail
  refine (form_Holds _ _ l c _ _ _ _ _ (HA.out.keep (by (repeat' (first | (with_reducible exact Below.refl _ _) | (with_reducible assumption) | (with_reducible refine Below.next ?_ (by with_reducible assumption)) | (with_reducible refine Below.drew ?_) | (with_reducible refine Below.laid ?_ _) | (with_reducible refine Below.setCell ?_ ?_ _) | (with_reducible refine size_of ?_) | (with_reducible refine Nat.le_succ_of_le ?_) | go_size)))) (HC.out.keep (by (repeat' (first | (with_reducible exact Below.refl _ _) | (with_reducible assumption) | (with_reducible refine Below.next ?_ (by with_reducible assumption)) | (with_reducible refine Below.drew ?_) | (with_reducible refine Below.laid ?_ _) | (with_reducible refine Below.setCell ?_ ?_ _) | (with_reducible refine size_of ?_) | (with_reducible refine Nat.le_succ_of_le ?_) | go_size)))) (HK.out.keep (by (repeat' (first | (with_reducible exact Below.refl _ _) | (with_reducible assumption) | (with_reducible refine Below.next ?_ (by with_reducible assumption)) | (with_reducible refine Below.drew ?_) | (with_reducible refine Below.laid ?_ _) | (with_reducible refine Below.setCell ?_ ?_ _) | (with_reducible refine size_of ?_) | (with_reducible refine Nat.le_succ_of_le ?_) | go_size))))).mono ?_
  rintro e w3 ⟨rfl, hb3⟩
  rw [HX1.out]
  have hq3 : Below w2.heap.size w2 w3 := by (repeat' (first | (with_reducible exact Below.refl _ _) | (with_reducible assumption) | (with_reducible refine Below.next ?_ (by with_reducible assumption)) | (with_reducible refine Below.drew ?_) | (with_reducible refine Below.laid ?_ _) | (with_reducible refine Below.setCell ?_ ?_ _) | (with_reducible refine size_of ?_) | (with_reducible refine Nat.le_succ_of_le ?_) | go_size))
  have hw3 : Below w.heap.size w w3 := Below.next hw2 hq3
  replace BF := BF.keep hq3
  try clear BF0 BF1 BFl
  obtain ⟨⟨BF0, BF1⟩, _⟩ := BF.cells2
  have BFl := BF.lt
  replace BW := BW.keep hq3
  try clear BW0 BW1 BW2 BW3 BWl
  obtain ⟨BW0, BW1, BW2, BW3⟩ := BW.cells4
  have BWl := BW.lt
  replace BG := BG.keep hq3
  try clear BG0 BG1 BGl
  obtain ⟨⟨BG0, BG1⟩, _⟩ := BG.cells2
  have BGl := BG.lt
  go_wp2_with fail
  refine (form_Negate _ _ l c _ (HA.out.keep (by (repeat' (first | (with_reducible exact Below.refl _ _) | (with_reducible assumption) | (with_reducible refine Below.next ?_ (by with_reducible assumption)) | (with_reducible refine Below.drew ?_) | (with_reducible refine Below.laid ?_ _) | (with_reducible refine Below.setCell ?_ ?_ _) | (with_reducible refine size_of ?_) | (with_reducible refine Nat.le_succ_of_le ?_) | go_size)))) (HC.out.keep (by (repeat' (first | (with_reducible exact Below.refl _ _) | (with_reducible assumption) | (with_reducible refine Below.next ?_ (by with_reducible assumption)) | (with_reducible refine Below.drew ?_) | (with_reducible refine Below.laid ?_ _) | (with_reducible refine Below.setCell ?_ ?_ _) | (with_reducible refine size_of ?_) | (with_reducible refine Nat.le_succ_of_le ?_) | go_size)))) (HK.out.keep (by (repeat' (first | (with_reducible exact Below.refl _ _) | (with_reducible assumption) | (with_reducible refine Below.next ?_ (by with_reducible assumption)) | (with_reducible refine Below.drew ?_) | (with_reducible refine Below.laid ?_ _) | (with_reducible refine Below.setCell ?_ ?_ _) | (with_reducible refine size_of ?_) | (with_reducible refine Nat.le_succ_of_le ?_) | go_size))))).mono ?_
  rintro e w4 ⟨NA, nA, NC, nC, rfl, hb4, hA4, hC4⟩
  have hw4 : Below w.heap.size w w4 := Below.next hw3 hb4
  have HA4 := Lib.hid hA4
  have HC4 := Lib.hid hC4
  replace BF := BF.keep hb4
  replace BW := BW.keep hb4
  replace BG := BG.keep hb4
  clear BF0 BF1 BFl BW0 BW1 BW2 BW3 BWl BG0 BG1 BGl hA4 hC4
  have hnv : (Venn.negChk ⟨l, c⟩ = 4 ∧ c.length = 20) ∨ (Venn.negChk ⟨l, c⟩ = 0 ∧ c.length < 20 ∧ negV ⟨l, c⟩ = Venn.negF ⟨l, c⟩) := by
    by_cases h20 : c.length = 20
    · exact .inl ⟨by rw [Venn.negChk, if_pos HF.out, if_pos h20], h20⟩
    · have h0 : Venn.negChk ⟨l, c⟩ = 0 := by rw [Venn.negChk, if_pos HF.out, if_neg h20]
      exact .inr ⟨h0, by omega, by rw [negV, if_pos h0]⟩
  have HNV := Lib.hid hnv
  clear hnv
  generalize Venn.negChk ⟨l, c⟩ = E4 at HNV ⊢
  generalize negV ⟨l, c⟩ = N4 at HNV HA4 HC4 ⊢
  obtain ⟨nl, nc⟩ := N4
  simp only
  go_upto_region 10 with (fail)
  have BN := Blk.new w4 25 #[.slice NA nl.length nA, .slice NC nc.length nC]
  replace BF := BF.alloc (.cells #[.slice NA nl.length nA, .slice NC nc.length nC] 25)
  replace BW := BW.alloc (.cells #[.slice NA nl.length nA, .slice NC nc.length nC] 25)
  replace BG := BG.alloc (.cells #[.slice NA nl.length nA, .slice NC nc.length nC] 25)
  have hw5 : Below w.heap.size w (w4.alloc (.cells #[.slice NA nl.length nA, .slice NC nc.length nC] 25)) := by (repeat' (first | (with_reducible exact Below.refl _ _) | (with_reducible assumption) | (with_reducible refine Below.next ?_ (by with_reducible assumption)) | (with_reducible refine Below.drew ?_) | (with_reducible refine Below.laid ?_ _) | (with_reducible refine Below.setCell ?_ ?_ _) | (with_reducible refine size_of ?_) | (with_reducible refine Nat.le_succ_of_le ?_) | go_size))
  have HA5 := Lib.hid (HA4.out.keep (Below.laid (Below.refl _ _) (.cells #[.slice NA nl.length nA, .slice NC nc.length nC] 25)))
  have HC5 := Lib.hid (HC4.out.keep (Below.laid (Below.refl _ _) (.cells #[.slice NA nl.length nA, .slice NC nc.length nC] 25)))
  have hlt5 := BN.lt
  clear hb4 HA4 HC4
  revert BN BF BW BG hw5 HA5 HC5 hlt5
  generalize World.alloc _ _ = w5
  intro BN BF BW BG hw5 HA5 HC5 hlt5
  clear hw4
  generalize w4.heap.size = nb at BN hlt5 ⊢
  have HBX := Lib.hid (And.intro BF (And.intro BW BG))
  obtain ⟨q10, hq10⟩ : ∃ q : Bool, q = (E4 == 0) := ⟨_, rfl⟩
  rcases HNV.out with ⟨hE4, -⟩ | ⟨hE4, hlt20, hNN⟩
  · subst hE4
    rw [show errV 4 = .iface 97 (.int .i64 4) from rfl]
    have hq : q10 = false := hq10
    clear HNV HA5 HC5 BN hq10 hq HBX hlt5
    have hw6 := hw5
    obtain ⟨w6, rfl⟩ : ∃ w6 : World, w6 = w5 := ⟨_, rfl⟩
    obtain ⟨⟨BF0, BF1⟩, _⟩ := BF.cells2
    have BFl := BF.lt
    obtain ⟨BW0, BW1, BW2, BW3⟩ := BW.cells4
    have BWl := BW.lt
    obtain ⟨⟨BG0, BG1⟩, _⟩ := BG.cells2
    have BGl := BG.lt
    by_cases h2 : ¬ Venn.formChk ⟨m, d⟩ = 0
    · have HX := Lib.hid (holds_bad (l := m) (c := d) (W := ⟨th, x, y, z⟩) (by rw [Venn.formHoldsChk, if_neg h2]; exact h2))
      clear h2
      go_wp2_with fail
      refine (form_Holds _ _ m d _ _ _ _ _ (HB.out.keep (by (repeat' (first | (with_reducible exact Below.refl _ _) | (with_reducible assumption) | (with_reducible refine Below.next ?_ (by with_reducible assumption)) | (with_reducible refine Below.drew ?_) | (with_reducible refine Below.laid ?_ _) | (with_reducible refine Below.setCell ?_ ?_ _) | (with_reducible refine size_of ?_) | (with_reducible refine Nat.le_succ_of_le ?_) | go_size)))) (HD.out.keep (by (repeat' (first | (with_reducible exact Below.refl _ _) | (with_reducible assumption) | (with_reducible refine Below.next ?_ (by with_reducible assumption)) | (with_reducible refine Below.drew ?_) | (with_reducible refine Below.laid ?_ _) | (with_reducible refine Below.setCell ?_ ?_ _) | (with_reducible refine size_of ?_) | (with_reducible refine Nat.le_succ_of_le ?_) | go_size)))) (HK.out.keep (by (repeat' (first | (with_reducible exact Below.refl _ _) | (with_reducible assumption) | (with_reducible refine Below.next ?_ (by with_reducible assumption)) | (with_reducible refine Below.drew ?_) | (with_reducible refine Below.laid ?_ _) | (with_reducible refine Below.setCell ?_ ?_ _) | (with_reducible refine size_of ?_) | (with_reducible refine Nat.le_succ_of_le ?_) | go_size))))).mono ?_
      rintro e w7 ⟨rfl, hb7⟩
      rw [HX.out]
      have hq7 : Below w6.heap.size w6 w7 := by (repeat' (first | (with_reducible exact Below.refl _ _) | (with_reducible assumption) | (with_reducible refine Below.next ?_ (by with_reducible assumption)) | (with_reducible refine Below.drew ?_) | (with_reducible refine Below.laid ?_ _) | (with_reducible refine Below.setCell ?_ ?_ _) | (with_reducible refine size_of ?_) | (with_reducible refine Nat.le_succ_of_le ?_) | go_size))
      have hw7 : Below w.heap.size w w7 := Below.next hw6 hq7
      go_wp2
      go_ret
      exact ⟨rfl, hw7⟩
    replace h2 := Decidable.not_not.1 h2
    have HX2 := Lib.hid (holds_ok h2 HW.out)
    have HG := Lib.hid h2
    obtain ⟨V2, hV2⟩ : ∃ V, V = Venn.formTrue ⟨m, d⟩ ⟨th, x, y, z⟩ := ⟨_, rfl⟩
    rw [← hV2] at HX2
    have HV2 := Lib.hid hV2
    have hs1 := form_small HF.out
    have hs2 := form_small h2
    have hwa : IntKind.i64.wrap ((l.length : Int) + (m.length : Int)) = (l.length : Int) + (m.length : Int) := IntWalk.i64_in _ (by omega)
    have hwc : IntKind.i64.wrap ((c.length : Int) + (d.length : Int)) = (c.length : Int) + (d.length : Int) := IntWalk.i64_in _ (by omega)
    have HBO := Lib.hid (fun W h1 h2 h3 h4 h5 => form_Both (.slice A l.length cA) (.slice C c.length cC) (.slice B m.length cB) (.slice D d.length cD) l m c d W h1 h2 h3 h4 h5)
    obtain ⟨bv, hbv⟩ : ∃ b, b = bothV ⟨l, c⟩ ⟨m, d⟩ := ⟨_, rfl⟩
    obtain ⟨E8, hE8⟩ : ∃ b, b = Venn.bothChk ⟨l, c⟩ ⟨m, d⟩ := ⟨_, rfl⟩
    rw [← hbv, ← hE8] at HBO
    have hbo : (E8 = 4 ∧ (6 < l.length + m.length ∨ 19 < c.length + d.length)) ∨ (E8 = 0 ∧ bv = ⟨l ++ m, c ++ d.map (Venn.sh l.length) ++ [10]⟩ ∧ ¬ (6 < l.length + m.length ∨ 19 < c.length + d.length)) := by
      have e1 : Venn.bothChk ⟨l, c⟩ ⟨m, d⟩ = if 6 < l.length + m.length ∨ 19 < c.length + d.length then 4 else 0 := by rw [Venn.bothChk, if_pos HF.out, if_pos HG.out]
      by_cases h3 : 6 < l.length + m.length ∨ 19 < c.length + d.length
      · exact .inl ⟨by rw [hE8, e1, if_pos h3], h3⟩
      · have e2 : E8 = 0 := by rw [hE8, e1, if_neg h3]
        exact .inr ⟨e2, by rw [hbv, bothV, if_pos (by rw [← hE8]; exact e2)]; rfl, h3⟩
    have HBOO := Lib.hid hbo
    clear h2 hV2 hs1 hs2 hbo hbv hE8
    obtain ⟨bl, bc⟩ := bv
    go_wp2_with fail
    refine (form_Holds _ _ m d _ _ _ _ _ (HB.out.keep (by (repeat' (first | (with_reducible exact Below.refl _ _) | (with_reducible assumption) | (with_reducible refine Below.next ?_ (by with_reducible assumption)) | (with_reducible refine Below.drew ?_) | (with_reducible refine Below.laid ?_ _) | (with_reducible refine Below.setCell ?_ ?_ _) | (with_reducible refine size_of ?_) | (with_reducible refine Nat.le_succ_of_le ?_) | go_size)))) (HD.out.keep (by (repeat' (first | (with_reducible exact Below.refl _ _) | (with_reducible assumption) | (with_reducible refine Below.next ?_ (by with_reducible assumption)) | (with_reducible refine Below.drew ?_) | (with_reducible refine Below.laid ?_ _) | (with_reducible refine Below.setCell ?_ ?_ _) | (with_reducible refine size_of ?_) | (with_reducible refine Nat.le_succ_of_le ?_) | go_size)))) (HK.out.keep (by (repeat' (first | (with_reducible exact Below.refl _ _) | (with_reducible assumption) | (with_reducible refine Below.next ?_ (by with_reducible assumption)) | (with_reducible refine Below.drew ?_) | (with_reducible refine Below.laid ?_ _) | (with_reducible refine Below.setCell ?_ ?_ _) | (with_reducible refine size_of ?_) | (with_reducible refine Nat.le_succ_of_le ?_) | go_size))))).mono ?_
    rintro e w7 ⟨rfl, hb7⟩
    rw [HX2.out]
    have hq7 : Below w6.heap.size w6 w7 := by (repeat' (first | (with_reducible exact Below.refl _ _) | (with_reducible assumption) | (with_reducible refine Below.next ?_ (by with_reducible assumption)) | (with_reducible refine Below.drew ?_) | (with_reducible refine Below.laid ?_ _) | (with_reducible refine Below.setCell ?_ ?_ _) | (with_reducible refine size_of ?_) | (with_reducible refine Nat.le_succ_of_le ?_) | go_size))
    have hw7 : Below w.heap.size w w7 := Below.next hw6 hq7
    replace BF := BF.keep hq7
    try clear BF0 BF1 BFl
    obtain ⟨⟨BF0, BF1⟩, _⟩ := BF.cells2
    have BFl := BF.lt
    replace BW := BW.keep hq7
    try clear BW0 BW1 BW2 BW3 BWl
    obtain ⟨BW0, BW1, BW2, BW3⟩ := BW.cells4
    have BWl := BW.lt
    replace BG := BG.keep hq7
    try clear BG0 BG1 BGl
    obtain ⟨⟨BG0, BG1⟩, _⟩ := BG.cells2
    have BGl := BG.lt
    go_wp2_with fail
    refine (HBO.out _ (HA.out.keep (by (repeat' (first | (with_reducible exact Below.refl _ _) | (with_reducible assumption) | (with_reducible refine Below.next ?_ (by with_reducible assumption)) | (with_reducible refine Below.drew ?_) | (with_reducible refine Below.laid ?_ _) | (with_reducible refine Below.setCell ?_ ?_ _) | (with_reducible refine size_of ?_) | (with_reducible refine Nat.le_succ_of_le ?_) | go_size)))) (HC.out.keep (by (repeat' (first | (with_reducible exact Below.refl _ _) | (with_reducible assumption) | (with_reducible refine Below.next ?_ (by with_reducible assumption)) | (with_reducible refine Below.drew ?_) | (with_reducible refine Below.laid ?_ _) | (with_reducible refine Below.setCell ?_ ?_ _) | (with_reducible refine size_of ?_) | (with_reducible refine Nat.le_succ_of_le ?_) | go_size)))) (HB.out.keep (by (repeat' (first | (with_reducible exact Below.refl _ _) | (with_reducible assumption) | (with_reducible refine Below.next ?_ (by with_reducible assumption)) | (with_reducible refine Below.drew ?_) | (with_reducible refine Below.laid ?_ _) | (with_reducible refine Below.setCell ?_ ?_ _) | (with_reducible refine size_of ?_) | (with_reducible refine Nat.le_succ_of_le ?_) | go_size)))) (HD.out.keep (by (repeat' (first | (with_reducible exact Below.refl _ _) | (with_reducible assumption) | (with_reducible refine Below.next ?_ (by with_reducible assumption)) | (with_reducible refine Below.drew ?_) | (with_reducible refine Below.laid ?_ _) | (with_reducible refine Below.setCell ?_ ?_ _) | (with_reducible refine size_of ?_) | (with_reducible refine Nat.le_succ_of_le ?_) | go_size)))) (HK.out.keep (by (repeat' (first | (with_reducible exact Below.refl _ _) | (with_reducible assumption) | (with_reducible refine Below.next ?_ (by with_reducible assumption)) | (with_reducible refine Below.drew ?_) | (with_reducible refine Below.laid ?_ _) | (with_reducible refine Below.setCell ?_ ?_ _) | (with_reducible refine size_of ?_) | (with_reducible refine Nat.le_succ_of_le ?_) | go_size))))).mono ?_
    rintro e w8 ⟨NA, nA, NC, nC, rfl, hb8, hA8, hC8⟩
    have hw8 : Below w.heap.size w w8 := Below.next hw7 hb8
    replace BF := BF.keep hb8
    replace BW := BW.keep hb8
    replace BG := BG.keep hb8
    clear BF0 BF1 BFl BW0 BW1 BW2 BW3 BWl BG0 BG1 BGl
    obtain ⟨⟨BF0, BF1⟩, _⟩ := BF.cells2
    have BFl := BF.lt
    obtain ⟨BW0, BW1, BW2, BW3⟩ := BW.cells4
    have BWl := BW.lt
    obtain ⟨⟨BG0, BG1⟩, _⟩ := BG.cells2
    have BGl := BG.lt
    simp only at hA8 hC8 ⊢
    rcases HBOO.out with ⟨hE, h3⟩ | ⟨hE, hvv, h3⟩
    · subst hE
      rw [show errV 4 = .iface 97 (.int .i64 4) from rfl]
      rcases (by omega : 6 < (l.length : Int) + (m.length : Int) ∨ (¬ 6 < (l.length : Int) + (m.length : Int) ∧ 19 < (c.length : Int) + (d.length : Int))) with h4 | ⟨h4, h5⟩
      · clear hA8 hC8 h3 HBO HBOO
        go_wp2
        go_ret
        exact ⟨by simp, by (repeat' (first | (with_reducible exact Below.refl _ _) | (with_reducible assumption) | (with_reducible refine Below.next ?_ (by with_reducible assumption)) | (with_reducible refine Below.drew ?_) | (with_reducible refine Below.laid ?_ _) | (with_reducible refine Below.setCell ?_ ?_ _) | (with_reducible refine size_of ?_) | (with_reducible refine Nat.le_succ_of_le ?_) | go_size))⟩
      · clear hA8 hC8 h3 HBO HBOO
        go_wp2
        go_ret
        exact ⟨by simp, by (repeat' (first | (with_reducible exact Below.refl _ _) | (with_reducible assumption) | (with_reducible refine Below.next ?_ (by with_reducible assumption)) | (with_reducible refine Below.drew ?_) | (with_reducible refine Below.laid ?_ _) | (with_reducible refine Below.setCell ?_ ?_ _) | (with_reducible refine size_of ?_) | (with_reducible refine Nat.le_succ_of_le ?_) | go_size))⟩
    subst hE
    rw [show errV 0 = .nilIface from rfl]
    have hbc : Venn.formChk ⟨bl, bc⟩ = 0 := by
      rw [hvv]
      exact Venn.bothF_chk HF.out HG.out (by show l.length + m.length ≤ 6; omega) (by show c.length + d.length ≤ 19; omega)
    have hbt : Venn.formTrue ⟨bl, bc⟩ ⟨th, x, y, z⟩ = (V1 && V2) := by
      rw [hvv]
      exact (Venn.bothF_true HF.out HG.out (by show l.length + m.length ≤ 6; omega) ⟨th, x, y, z⟩).trans (by rw [HV1.out, HV2.out])
    have hx8 := holds_ok hbc HW.out
    rw [hbt] at hx8
    have HX8 := Lib.hid hx8
    have HA8 := Lib.hid hA8
    have HC8 := Lib.hid hC8
    clear hA8 hC8 hbc hbt hx8 hvv h3 HBO HBOO
    go_wp2_with fail
    refine (form_Holds _ _ bl bc _ _ _ _ _ (HA8.out.keep (by (repeat' (first | (with_reducible exact Below.refl _ _) | (with_reducible assumption) | (with_reducible refine Below.next ?_ (by with_reducible assumption)) | (with_reducible refine Below.drew ?_) | (with_reducible refine Below.laid ?_ _) | (with_reducible refine Below.setCell ?_ ?_ _) | (with_reducible refine size_of ?_) | (with_reducible refine Nat.le_succ_of_le ?_) | go_size)))) (HC8.out.keep (by (repeat' (first | (with_reducible exact Below.refl _ _) | (with_reducible assumption) | (with_reducible refine Below.next ?_ (by with_reducible assumption)) | (with_reducible refine Below.drew ?_) | (with_reducible refine Below.laid ?_ _) | (with_reducible refine Below.setCell ?_ ?_ _) | (with_reducible refine size_of ?_) | (with_reducible refine Nat.le_succ_of_le ?_) | go_size)))) (HK.out.keep (by (repeat' (first | (with_reducible exact Below.refl _ _) | (with_reducible assumption) | (with_reducible refine Below.next ?_ (by with_reducible assumption)) | (with_reducible refine Below.drew ?_) | (with_reducible refine Below.laid ?_ _) | (with_reducible refine Below.setCell ?_ ?_ _) | (with_reducible refine size_of ?_) | (with_reducible refine Nat.le_succ_of_le ?_) | go_size))))).mono ?_
    rintro e w9 ⟨rfl, hb9⟩
    rw [HX8.out]
    have hw9 : Below w.heap.size w w9 := by (repeat' (first | (with_reducible exact Below.refl _ _) | (with_reducible assumption) | (with_reducible refine Below.next ?_ (by with_reducible assumption)) | (with_reducible refine Below.drew ?_) | (with_reducible refine Below.laid ?_ _) | (with_reducible refine Below.setCell ?_ ?_ _) | (with_reducible refine size_of ?_) | (with_reducible refine Nat.le_succ_of_le ?_) | go_size))
    cases V1 <;> cases V2
    all_goals
      go_wp2
      go_ret
      exact ⟨by simp, hw9⟩
  · subst hE4
    rw [show errV 0 = .nilIface from rfl]
    have hx6 := holds_ok (l := nl) (c := nc) (W := ⟨th, x, y, z⟩) (by rw [hNN]; exact HNC.out hlt20) HW.out
    rw [show Venn.formTrue ⟨nl, nc⟩ ⟨th, x, y, z⟩ = !V1 by rw [hNN]; exact HNT.out] at hx6
    have HX6 := Lib.hid hx6
    clear hx6
    clear HNV hNN hq10 HNC HNT
    obtain ⟨⟨BF0, BF1⟩, _⟩ := BF.cells2
    have BFl := BF.lt
    obtain ⟨BW0, BW1, BW2, BW3⟩ := BW.cells4
    have BWl := BW.lt
    obtain ⟨⟨BG0, BG1⟩, _⟩ := BG.cells2
    have BGl := BG.lt
    obtain ⟨⟨BN0, BN1⟩, _⟩ := BN.cells2
    have BNl := BN.lt
    go_wp2_with fail
    refine (form_Holds _ _ nl nc _ _ _ _ _ (HA5.out.keep (by (repeat' (first | (with_reducible exact Below.refl _ _) | (with_reducible assumption) | (with_reducible refine Below.next ?_ (by with_reducible assumption)) | (with_reducible refine Below.drew ?_) | (with_reducible refine Below.laid ?_ _) | (with_reducible refine Below.setCell ?_ ?_ _) | (with_reducible refine size_of ?_) | (with_reducible refine Nat.le_succ_of_le ?_) | go_size)))) (HC5.out.keep (by (repeat' (first | (with_reducible exact Below.refl _ _) | (with_reducible assumption) | (with_reducible refine Below.next ?_ (by with_reducible assumption)) | (with_reducible refine Below.drew ?_) | (with_reducible refine Below.laid ?_ _) | (with_reducible refine Below.setCell ?_ ?_ _) | (with_reducible refine size_of ?_) | (with_reducible refine Nat.le_succ_of_le ?_) | go_size)))) (HK.out.keep (by (repeat' (first | (with_reducible exact Below.refl _ _) | (with_reducible assumption) | (with_reducible refine Below.next ?_ (by with_reducible assumption)) | (with_reducible refine Below.drew ?_) | (with_reducible refine Below.laid ?_ _) | (with_reducible refine Below.setCell ?_ ?_ _) | (with_reducible refine size_of ?_) | (with_reducible refine Nat.le_succ_of_le ?_) | go_size))))).mono ?_
    rintro e w6 ⟨rfl, hb6⟩
    rw [HX6.out]
    have hw6 : Below w.heap.size w w6 := Below.next hw5 hb6
    replace BF := BF.keep hb6
    replace BW := BW.keep hb6
    replace BG := BG.keep hb6
    clear BF0 BF1 BFl BW0 BW1 BW2 BW3 BWl BG0 BG1 BGl BN BN0 BN1 BNl HBX hlt5 HA5 HC5 hb6 HX6
    have hne : (!V1 == V1) = false := by cases V1 <;> rfl
    obtain ⟨⟨BF0, BF1⟩, _⟩ := BF.cells2
    have BFl := BF.lt
    obtain ⟨BW0, BW1, BW2, BW3⟩ := BW.cells4
    have BWl := BW.lt
    obtain ⟨⟨BG0, BG1⟩, _⟩ := BG.cells2
    have BGl := BG.lt
    by_cases h2 : ¬ Venn.formChk ⟨m, d⟩ = 0
    · have HX := Lib.hid (holds_bad (l := m) (c := d) (W := ⟨th, x, y, z⟩) (by rw [Venn.formHoldsChk, if_neg h2]; exact h2))
      clear h2
      go_wp2_with fail
      refine (form_Holds _ _ m d _ _ _ _ _ (HB.out.keep (by (repeat' (first | (with_reducible exact Below.refl _ _) | (with_reducible assumption) | (with_reducible refine Below.next ?_ (by with_reducible assumption)) | (with_reducible refine Below.drew ?_) | (with_reducible refine Below.laid ?_ _) | (with_reducible refine Below.setCell ?_ ?_ _) | (with_reducible refine size_of ?_) | (with_reducible refine Nat.le_succ_of_le ?_) | go_size)))) (HD.out.keep (by (repeat' (first | (with_reducible exact Below.refl _ _) | (with_reducible assumption) | (with_reducible refine Below.next ?_ (by with_reducible assumption)) | (with_reducible refine Below.drew ?_) | (with_reducible refine Below.laid ?_ _) | (with_reducible refine Below.setCell ?_ ?_ _) | (with_reducible refine size_of ?_) | (with_reducible refine Nat.le_succ_of_le ?_) | go_size)))) (HK.out.keep (by (repeat' (first | (with_reducible exact Below.refl _ _) | (with_reducible assumption) | (with_reducible refine Below.next ?_ (by with_reducible assumption)) | (with_reducible refine Below.drew ?_) | (with_reducible refine Below.laid ?_ _) | (with_reducible refine Below.setCell ?_ ?_ _) | (with_reducible refine size_of ?_) | (with_reducible refine Nat.le_succ_of_le ?_) | go_size))))).mono ?_
      rintro e w7 ⟨rfl, hb7⟩
      rw [HX.out]
      have hq7 : Below w6.heap.size w6 w7 := by (repeat' (first | (with_reducible exact Below.refl _ _) | (with_reducible assumption) | (with_reducible refine Below.next ?_ (by with_reducible assumption)) | (with_reducible refine Below.drew ?_) | (with_reducible refine Below.laid ?_ _) | (with_reducible refine Below.setCell ?_ ?_ _) | (with_reducible refine size_of ?_) | (with_reducible refine Nat.le_succ_of_le ?_) | go_size))
      have hw7 : Below w.heap.size w w7 := Below.next hw6 hq7
      go_wp2
      go_ret
      exact ⟨rfl, hw7⟩
    replace h2 := Decidable.not_not.1 h2
    have HX2 := Lib.hid (holds_ok h2 HW.out)
    have HG := Lib.hid h2
    obtain ⟨V2, hV2⟩ : ∃ V, V = Venn.formTrue ⟨m, d⟩ ⟨th, x, y, z⟩ := ⟨_, rfl⟩
    rw [← hV2] at HX2
    have HV2 := Lib.hid hV2
    have hs1 := form_small HF.out
    have hs2 := form_small h2
    have hwa : IntKind.i64.wrap ((l.length : Int) + (m.length : Int)) = (l.length : Int) + (m.length : Int) := IntWalk.i64_in _ (by omega)
    have hwc : IntKind.i64.wrap ((c.length : Int) + (d.length : Int)) = (c.length : Int) + (d.length : Int) := IntWalk.i64_in _ (by omega)
    have HBO := Lib.hid (fun W h1 h2 h3 h4 h5 => form_Both (.slice A l.length cA) (.slice C c.length cC) (.slice B m.length cB) (.slice D d.length cD) l m c d W h1 h2 h3 h4 h5)
    obtain ⟨bv, hbv⟩ : ∃ b, b = bothV ⟨l, c⟩ ⟨m, d⟩ := ⟨_, rfl⟩
    obtain ⟨E8, hE8⟩ : ∃ b, b = Venn.bothChk ⟨l, c⟩ ⟨m, d⟩ := ⟨_, rfl⟩
    rw [← hbv, ← hE8] at HBO
    have hbo : (E8 = 4 ∧ (6 < l.length + m.length ∨ 19 < c.length + d.length)) ∨ (E8 = 0 ∧ bv = ⟨l ++ m, c ++ d.map (Venn.sh l.length) ++ [10]⟩ ∧ ¬ (6 < l.length + m.length ∨ 19 < c.length + d.length)) := by
      have e1 : Venn.bothChk ⟨l, c⟩ ⟨m, d⟩ = if 6 < l.length + m.length ∨ 19 < c.length + d.length then 4 else 0 := by rw [Venn.bothChk, if_pos HF.out, if_pos HG.out]
      by_cases h3 : 6 < l.length + m.length ∨ 19 < c.length + d.length
      · exact .inl ⟨by rw [hE8, e1, if_pos h3], h3⟩
      · have e2 : E8 = 0 := by rw [hE8, e1, if_neg h3]
        exact .inr ⟨e2, by rw [hbv, bothV, if_pos (by rw [← hE8]; exact e2)]; rfl, h3⟩
    have HBOO := Lib.hid hbo
    clear h2 hV2 hs1 hs2 hbo hbv hE8
    obtain ⟨bl, bc⟩ := bv
    go_wp2_with fail
    refine (form_Holds _ _ m d _ _ _ _ _ (HB.out.keep (by (repeat' (first | (with_reducible exact Below.refl _ _) | (with_reducible assumption) | (with_reducible refine Below.next ?_ (by with_reducible assumption)) | (with_reducible refine Below.drew ?_) | (with_reducible refine Below.laid ?_ _) | (with_reducible refine Below.setCell ?_ ?_ _) | (with_reducible refine size_of ?_) | (with_reducible refine Nat.le_succ_of_le ?_) | go_size)))) (HD.out.keep (by (repeat' (first | (with_reducible exact Below.refl _ _) | (with_reducible assumption) | (with_reducible refine Below.next ?_ (by with_reducible assumption)) | (with_reducible refine Below.drew ?_) | (with_reducible refine Below.laid ?_ _) | (with_reducible refine Below.setCell ?_ ?_ _) | (with_reducible refine size_of ?_) | (with_reducible refine Nat.le_succ_of_le ?_) | go_size)))) (HK.out.keep (by (repeat' (first | (with_reducible exact Below.refl _ _) | (with_reducible assumption) | (with_reducible refine Below.next ?_ (by with_reducible assumption)) | (with_reducible refine Below.drew ?_) | (with_reducible refine Below.laid ?_ _) | (with_reducible refine Below.setCell ?_ ?_ _) | (with_reducible refine size_of ?_) | (with_reducible refine Nat.le_succ_of_le ?_) | go_size))))).mono ?_
    rintro e w7 ⟨rfl, hb7⟩
    rw [HX2.out]
    have hq7 : Below w6.heap.size w6 w7 := by (repeat' (first | (with_reducible exact Below.refl _ _) | (with_reducible assumption) | (with_reducible refine Below.next ?_ (by with_reducible assumption)) | (with_reducible refine Below.drew ?_) | (with_reducible refine Below.laid ?_ _) | (with_reducible refine Below.setCell ?_ ?_ _) | (with_reducible refine size_of ?_) | (with_reducible refine Nat.le_succ_of_le ?_) | go_size))
    have hw7 : Below w.heap.size w w7 := Below.next hw6 hq7
    replace BF := BF.keep hq7
    try clear BF0 BF1 BFl
    obtain ⟨⟨BF0, BF1⟩, _⟩ := BF.cells2
    have BFl := BF.lt
    replace BW := BW.keep hq7
    try clear BW0 BW1 BW2 BW3 BWl
    obtain ⟨BW0, BW1, BW2, BW3⟩ := BW.cells4
    have BWl := BW.lt
    replace BG := BG.keep hq7
    try clear BG0 BG1 BGl
    obtain ⟨⟨BG0, BG1⟩, _⟩ := BG.cells2
    have BGl := BG.lt
    go_wp2_with fail
    refine (HBO.out _ (HA.out.keep (by (repeat' (first | (with_reducible exact Below.refl _ _) | (with_reducible assumption) | (with_reducible refine Below.next ?_ (by with_reducible assumption)) | (with_reducible refine Below.drew ?_) | (with_reducible refine Below.laid ?_ _) | (with_reducible refine Below.setCell ?_ ?_ _) | (with_reducible refine size_of ?_) | (with_reducible refine Nat.le_succ_of_le ?_) | go_size)))) (HC.out.keep (by (repeat' (first | (with_reducible exact Below.refl _ _) | (with_reducible assumption) | (with_reducible refine Below.next ?_ (by with_reducible assumption)) | (with_reducible refine Below.drew ?_) | (with_reducible refine Below.laid ?_ _) | (with_reducible refine Below.setCell ?_ ?_ _) | (with_reducible refine size_of ?_) | (with_reducible refine Nat.le_succ_of_le ?_) | go_size)))) (HB.out.keep (by (repeat' (first | (with_reducible exact Below.refl _ _) | (with_reducible assumption) | (with_reducible refine Below.next ?_ (by with_reducible assumption)) | (with_reducible refine Below.drew ?_) | (with_reducible refine Below.laid ?_ _) | (with_reducible refine Below.setCell ?_ ?_ _) | (with_reducible refine size_of ?_) | (with_reducible refine Nat.le_succ_of_le ?_) | go_size)))) (HD.out.keep (by (repeat' (first | (with_reducible exact Below.refl _ _) | (with_reducible assumption) | (with_reducible refine Below.next ?_ (by with_reducible assumption)) | (with_reducible refine Below.drew ?_) | (with_reducible refine Below.laid ?_ _) | (with_reducible refine Below.setCell ?_ ?_ _) | (with_reducible refine size_of ?_) | (with_reducible refine Nat.le_succ_of_le ?_) | go_size)))) (HK.out.keep (by (repeat' (first | (with_reducible exact Below.refl _ _) | (with_reducible assumption) | (with_reducible refine Below.next ?_ (by with_reducible assumption)) | (with_reducible refine Below.drew ?_) | (with_reducible refine Below.laid ?_ _) | (with_reducible refine Below.setCell ?_ ?_ _) | (with_reducible refine size_of ?_) | (with_reducible refine Nat.le_succ_of_le ?_) | go_size))))).mono ?_
    rintro e w8 ⟨NA, nA, NC, nC, rfl, hb8, hA8, hC8⟩
    have hw8 : Below w.heap.size w w8 := Below.next hw7 hb8
    replace BF := BF.keep hb8
    replace BW := BW.keep hb8
    replace BG := BG.keep hb8
    clear BF0 BF1 BFl BW0 BW1 BW2 BW3 BWl BG0 BG1 BGl
    obtain ⟨⟨BF0, BF1⟩, _⟩ := BF.cells2
    have BFl := BF.lt
    obtain ⟨BW0, BW1, BW2, BW3⟩ := BW.cells4
    have BWl := BW.lt
    obtain ⟨⟨BG0, BG1⟩, _⟩ := BG.cells2
    have BGl := BG.lt
    simp only at hA8 hC8 ⊢
    rcases HBOO.out with ⟨hE, h3⟩ | ⟨hE, hvv, h3⟩
    · subst hE
      rw [show errV 4 = .iface 97 (.int .i64 4) from rfl]
      rcases (by omega : 6 < (l.length : Int) + (m.length : Int) ∨ (¬ 6 < (l.length : Int) + (m.length : Int) ∧ 19 < (c.length : Int) + (d.length : Int))) with h4 | ⟨h4, h5⟩
      · clear hA8 hC8 h3 HBO HBOO
        go_wp2
        go_ret
        exact ⟨by simp, by (repeat' (first | (with_reducible exact Below.refl _ _) | (with_reducible assumption) | (with_reducible refine Below.next ?_ (by with_reducible assumption)) | (with_reducible refine Below.drew ?_) | (with_reducible refine Below.laid ?_ _) | (with_reducible refine Below.setCell ?_ ?_ _) | (with_reducible refine size_of ?_) | (with_reducible refine Nat.le_succ_of_le ?_) | go_size))⟩
      · clear hA8 hC8 h3 HBO HBOO
        go_wp2
        go_ret
        exact ⟨by simp, by (repeat' (first | (with_reducible exact Below.refl _ _) | (with_reducible assumption) | (with_reducible refine Below.next ?_ (by with_reducible assumption)) | (with_reducible refine Below.drew ?_) | (with_reducible refine Below.laid ?_ _) | (with_reducible refine Below.setCell ?_ ?_ _) | (with_reducible refine size_of ?_) | (with_reducible refine Nat.le_succ_of_le ?_) | go_size))⟩
    subst hE
    rw [show errV 0 = .nilIface from rfl]
    have hbc : Venn.formChk ⟨bl, bc⟩ = 0 := by
      rw [hvv]
      exact Venn.bothF_chk HF.out HG.out (by show l.length + m.length ≤ 6; omega) (by show c.length + d.length ≤ 19; omega)
    have hbt : Venn.formTrue ⟨bl, bc⟩ ⟨th, x, y, z⟩ = (V1 && V2) := by
      rw [hvv]
      exact (Venn.bothF_true HF.out HG.out (by show l.length + m.length ≤ 6; omega) ⟨th, x, y, z⟩).trans (by rw [HV1.out, HV2.out])
    have hx8 := holds_ok hbc HW.out
    rw [hbt] at hx8
    have HX8 := Lib.hid hx8
    have HA8 := Lib.hid hA8
    have HC8 := Lib.hid hC8
    clear hA8 hC8 hbc hbt hx8 hvv h3 HBO HBOO
    go_wp2_with fail
    refine (form_Holds _ _ bl bc _ _ _ _ _ (HA8.out.keep (by (repeat' (first | (with_reducible exact Below.refl _ _) | (with_reducible assumption) | (with_reducible refine Below.next ?_ (by with_reducible assumption)) | (with_reducible refine Below.drew ?_) | (with_reducible refine Below.laid ?_ _) | (with_reducible refine Below.setCell ?_ ?_ _) | (with_reducible refine size_of ?_) | (with_reducible refine Nat.le_succ_of_le ?_) | go_size)))) (HC8.out.keep (by (repeat' (first | (with_reducible exact Below.refl _ _) | (with_reducible assumption) | (with_reducible refine Below.next ?_ (by with_reducible assumption)) | (with_reducible refine Below.drew ?_) | (with_reducible refine Below.laid ?_ _) | (with_reducible refine Below.setCell ?_ ?_ _) | (with_reducible refine size_of ?_) | (with_reducible refine Nat.le_succ_of_le ?_) | go_size)))) (HK.out.keep (by (repeat' (first | (with_reducible exact Below.refl _ _) | (with_reducible assumption) | (with_reducible refine Below.next ?_ (by with_reducible assumption)) | (with_reducible refine Below.drew ?_) | (with_reducible refine Below.laid ?_ _) | (with_reducible refine Below.setCell ?_ ?_ _) | (with_reducible refine size_of ?_) | (with_reducible refine Nat.le_succ_of_le ?_) | go_size))))).mono ?_
    rintro e w9 ⟨rfl, hb9⟩
    rw [HX8.out]
    have hw9 : Below w.heap.size w w9 := by (repeat' (first | (with_reducible exact Below.refl _ _) | (with_reducible assumption) | (with_reducible refine Below.next ?_ (by with_reducible assumption)) | (with_reducible refine Below.drew ?_) | (with_reducible refine Below.laid ?_ _) | (with_reducible refine Below.setCell ?_ ?_ _) | (with_reducible refine size_of ?_) | (with_reducible refine Nat.le_succ_of_le ?_) | go_size))
    cases V1 <;> cases V2
    all_goals
      go_wp2
      go_ret
      exact ⟨by simp, hw9⟩
end Go.Proofs.YtcecbpbpknphjaaDoor
