/-
  THE WALK of vennlaw1.FormTells.
-/
import Derived.Test.YtcecbpbpknphjaaDoorRefBoth
import Derived.Test.YtcecbpbpknphjaaDoorSameForm
import Derived.Test.YtcecbpbpknphjaaDoorFormHolds
import Derived.Test.YtcecbpbpknphjaaDoorLawF
import Derived.Deep.DeepCutAuto
namespace Go.Proofs.YtcecbpbpknphjaaDoor
open Go.RowKit

set_option maxHeartbeats 8000000 in
set_option maxRecDepth 100000 in
theorem formTells_walk (sa sc sb sd : Value) (l m : List Venn.Atom) (c d : List Int) (th x y z : Int) (w : World) (ha : IsAtoms w sa l) (hc : IsInts w sc c) (hb : IsAtoms w sb m) (hd : IsInts w sd d) (hk : KindsOk w) (het : EtOk w) :
    Calls Tryd.prog 6 #[.agg #[sa, sc], .agg #[.int .i64 th, .int .i64 x, .int .i64 y, .int .i64 z], .agg #[sb, sd]] w (Keeps (.bool true) w) := by
  obtain ⟨A, cA, rfl⟩ := ha.slice
  obtain ⟨C, cC, rfl⟩ := hc.slice
  obtain ⟨B, cB, rfl⟩ := hb.slice
  obtain ⟨D, cD, rfl⟩ := hd.slice
  have HA := Lib.hid ha
  have HC := Lib.hid hc
  have HB := Lib.hid hb
  have HD := Lib.hid hd
  have HK := Lib.hid hk
  have HET := Lib.hid het
  clear ha hc hb hd hk het
  have HRF := Lib.hid (fun W h1 h2 => ref_Form (.slice A l.length cA) (.slice C c.length cC) l c W h1 h2)
  have HCF := Lib.hid (fun W h1 h2 h3 => form_Check (.slice A l.length cA) (.slice C c.length cC) l c W h1 h2 h3)
  have HRW := Lib.hid (fun W => ref_World th x y z W)
  have HRT := Lib.hid (fun (h1 : Venn.formChk ⟨l, c⟩ = 0) (h2 : Venn.worldChk ⟨th, x, y, z⟩ = 0) W g1 g2 => ref_True (.slice A l.length cA) (.slice C c.length cC) l c th x y z W g1 g2 h1 h2)
  have HFH := Lib.hid (fun W h1 h2 h3 => form_Holds (.slice A l.length cA) (.slice C c.length cC) l c th x y z W h1 h2 h3)
  have HRN := Lib.hid (fun W h1 h2 => ref_Negate (.slice A l.length cA) (.slice C c.length cC) l c W h1 h2)
  have HFN := Lib.hid (fun W h1 h2 h3 => form_Negate (.slice A l.length cA) (.slice C c.length cC) l c W h1 h2 h3)
  have HRB := Lib.hid (fun W h1 h2 h3 h4 => ref_Both (.slice A l.length cA) (.slice C c.length cC) (.slice B m.length cB) (.slice D d.length cD) l m c d W h1 h2 h3 h4)
  have HFB := Lib.hid (fun W h1 h2 h3 h4 h5 => form_Both (.slice A l.length cA) (.slice C c.length cC) (.slice B m.length cB) (.slice D d.length cD) l m c d W h1 h2 h3 h4 h5)
  have HHC := Lib.hid (show Venn.formHoldsChk ⟨l, c⟩ ⟨th, x, y, z⟩ = if Venn.formChk ⟨l, c⟩ = 0 then Venn.worldChk ⟨th, x, y, z⟩ else Venn.formChk ⟨l, c⟩ from rfl)
  have HHV := Lib.hid (show Venn.formHoldsV ⟨l, c⟩ ⟨th, x, y, z⟩ = if Venn.formHoldsChk ⟨l, c⟩ ⟨th, x, y, z⟩ = 0 then Venn.formTrue ⟨l, c⟩ ⟨th, x, y, z⟩ else false from rfl)
  have HZZ := Lib.hid (show Venn.formHoldsChk ⟨l, c⟩ ⟨th, x, y, z⟩ = 0 → Venn.formChk ⟨l, c⟩ = 0 ∧ Venn.worldChk ⟨th, x, y, z⟩ = 0 from fun h => by
    unfold Venn.formHoldsChk at h
    split at h
    · exact ⟨by assumption, h⟩
    · contradiction)
  generalize Venn.negChk ⟨l, c⟩ = EN at HRN HFN
  generalize negV ⟨l, c⟩ = VN at HRN HFN
  generalize Venn.bothChk ⟨l, c⟩ ⟨m, d⟩ = EB at HRB HFB
  generalize bothV ⟨l, c⟩ ⟨m, d⟩ = VB at HRB HFB
  obtain ⟨nl, nc⟩ := VN
  obtain ⟨bl, bc⟩ := VB
  generalize Venn.formHoldsChk ⟨l, c⟩ ⟨th, x, y, z⟩ = EH at HFH HHC HHV HZZ
  generalize Venn.formHoldsV ⟨l, c⟩ ⟨th, x, y, z⟩ = VH at HFH HHV
  generalize Venn.formTrue ⟨l, c⟩ ⟨th, x, y, z⟩ = TV at HRT HHV
  generalize Venn.formChk ⟨l, c⟩ = EF at HRF HCF HRT HHC HZZ
  generalize Venn.worldChk ⟨th, x, y, z⟩ = EW at HRW HRT HHC HZZ
  go_enter Tryd.func6, Tryd.ntmps6
  go_wp2_with fail
  refine (HRF.out _ (HA.out.keep (by (repeat' (first | (with_reducible exact Below.refl _ _) | (with_reducible assumption) | (with_reducible refine Below.next ?_ (by with_reducible assumption)) | (with_reducible refine Below.drew ?_) | (with_reducible refine Below.laid ?_ _) | (with_reducible refine Below.setCell ?_ ?_ _) | (with_reducible refine size_of ?_) | (with_reducible refine Nat.le_succ_of_le ?_) | go_size)))) (HC.out.keep (by (repeat' (first | (with_reducible exact Below.refl _ _) | (with_reducible assumption) | (with_reducible refine Below.next ?_ (by with_reducible assumption)) | (with_reducible refine Below.drew ?_) | (with_reducible refine Below.laid ?_ _) | (with_reducible refine Below.setCell ?_ ?_ _) | (with_reducible refine size_of ?_) | (with_reducible refine Nat.le_succ_of_le ?_) | go_size))))).mono ?_
  rintro e w1 ⟨rfl, hb1⟩
  have hq1 : Below w.heap.size w w1 := by (repeat' (first | (with_reducible exact Below.refl _ _) | (with_reducible assumption) | (with_reducible refine Below.next ?_ (by with_reducible assumption)) | (with_reducible refine Below.drew ?_) | (with_reducible refine Below.laid ?_ _) | (with_reducible refine Below.setCell ?_ ?_ _) | (with_reducible refine size_of ?_) | (with_reducible refine Nat.le_succ_of_le ?_) | go_size))
  have hw1 : Below w.heap.size w w1 := hq1
  have BF : Blk w1 w.heap.size 25 #[.slice A l.length cA, .slice C c.length cC] := Blk.keep (by repeat (first | exact Blk.new _ _ _ | refine Blk.alloc ?_ _)) hb1
  have BW : Blk w1 (w.heap.size + 1) 28 #[.int .i64 th, .int .i64 x, .int .i64 y, .int .i64 z] := Blk.keep (by repeat (first | (refine Blk.newAt ?_ _ _; simp; done) | refine Blk.alloc ?_ _)) hb1
  have BG : Blk w1 (w.heap.size + 1 + 1) 25 #[.slice B m.length cB, .slice D d.length cD] := Blk.keep (by repeat (first | (refine Blk.newAt ?_ _ _; simp; done) | refine Blk.alloc ?_ _)) hb1
  obtain ⟨⟨BF0, BF1⟩, _⟩ := BF.cells2
  have BFl := BF.lt
  obtain ⟨BW0, BW1, BW2, BW3⟩ := BW.cells4
  have BWl := BW.lt
  obtain ⟨⟨BG0, BG1⟩, _⟩ := BG.cells2
  have BGl := BG.lt
  go_wp2_with fail
  refine (HCF.out _ (HA.out.keep (by (repeat' (first | (with_reducible exact Below.refl _ _) | (with_reducible assumption) | (with_reducible refine Below.next ?_ (by with_reducible assumption)) | (with_reducible refine Below.drew ?_) | (with_reducible refine Below.laid ?_ _) | (with_reducible refine Below.setCell ?_ ?_ _) | (with_reducible refine size_of ?_) | (with_reducible refine Nat.le_succ_of_le ?_) | go_size)))) (HC.out.keep (by (repeat' (first | (with_reducible exact Below.refl _ _) | (with_reducible assumption) | (with_reducible refine Below.next ?_ (by with_reducible assumption)) | (with_reducible refine Below.drew ?_) | (with_reducible refine Below.laid ?_ _) | (with_reducible refine Below.setCell ?_ ?_ _) | (with_reducible refine size_of ?_) | (with_reducible refine Nat.le_succ_of_le ?_) | go_size)))) (HK.out.keep (by (repeat' (first | (with_reducible exact Below.refl _ _) | (with_reducible assumption) | (with_reducible refine Below.next ?_ (by with_reducible assumption)) | (with_reducible refine Below.drew ?_) | (with_reducible refine Below.laid ?_ _) | (with_reducible refine Below.setCell ?_ ?_ _) | (with_reducible refine size_of ?_) | (with_reducible refine Nat.le_succ_of_le ?_) | go_size))))).mono ?_
  rintro e w2 ⟨rfl, hb2⟩
  have hq2 : Below w1.heap.size w1 w2 := by (repeat' (first | (with_reducible exact Below.refl _ _) | (with_reducible assumption) | (with_reducible refine Below.next ?_ (by with_reducible assumption)) | (with_reducible refine Below.drew ?_) | (with_reducible refine Below.laid ?_ _) | (with_reducible refine Below.setCell ?_ ?_ _) | (with_reducible refine size_of ?_) | (with_reducible refine Nat.le_succ_of_le ?_) | go_size))
  have hw2 : Below w.heap.size w w2 := Below.next hw1 hq2
  replace BF := BF.keep hq2
  try clear BF0 BF1 BFl
  obtain ⟨⟨BF0, BF1⟩, _⟩ := BF.cells2
  have BFl := BF.lt
  replace BW := BW.keep hq2
  try clear BW0 BW1 BW2 BW3 BWl
  obtain ⟨BW0, BW1, BW2, BW3⟩ := BW.cells4
  have BWl := BW.lt
  replace BG := BG.keep hq2
  try clear BG0 BG1 BGl
  obtain ⟨⟨BG0, BG1⟩, _⟩ := BG.cells2
  have BGl := BG.lt
  go_wp2_with fail
  refine (vennsame_Error _ _ _ (HET.out.keep (by (repeat' (first | (with_reducible exact Below.refl _ _) | (with_reducible assumption) | (with_reducible refine Below.next ?_ (by with_reducible assumption)) | (with_reducible refine Below.drew ?_) | (with_reducible refine Below.laid ?_ _) | (with_reducible refine Below.setCell ?_ ?_ _) | (with_reducible refine size_of ?_) | (with_reducible refine Nat.le_succ_of_le ?_) | go_size))))).mono ?_
  rintro e w3 ⟨rfl, hb3⟩
  have hq3 : Below w2.heap.size w2 w3 := by (repeat' (first | (with_reducible exact Below.refl _ _) | (with_reducible assumption) | (with_reducible refine Below.next ?_ (by with_reducible assumption)) | (with_reducible refine Below.drew ?_) | (with_reducible refine Below.laid ?_ _) | (with_reducible refine Below.setCell ?_ ?_ _) | (with_reducible refine size_of ?_) | (with_reducible refine Nat.le_succ_of_le ?_) | go_size))
  have hw3 : Below w.heap.size w w3 := Below.next hw2 hq3
  replace BF := BF.keep hq3
  try clear BF0 BF1 BFl
  obtain ⟨⟨BF0, BF1⟩, _⟩ := BF.cells2
  have BFl := BF.lt
  replace BW := BW.keep hq3
  try clear BW0 BW1 BW2 BW3 BWl
  obtain ⟨BW0, BW1, BW2, BW3⟩ := BW.cells4
  have BWl := BW.lt
  replace BG := BG.keep hq3
  try clear BG0 BG1 BGl
  obtain ⟨⟨BG0, BG1⟩, _⟩ := BG.cells2
  have BGl := BG.lt
  rw [beq_self_eq_true]
  go_upto_if 26 with (fail)
  have HB3 := Lib.hid (And.intro BF (And.intro BW BG))
  go_cut [7] (fun s7 wx => s7 = .int .i64 EH ∧ Below w.heap.size w wx ∧ Blk wx w.heap.size 25 #[.slice A l.length cA, .slice C c.length cC] ∧ Blk wx (w.heap.size + 1) 28 #[.int .i64 th, .int .i64 x, .int .i64 y, .int .i64 z] ∧ Blk wx (w.heap.size + 1 + 1) 25 #[.slice B m.length cB, .slice D d.length cD])
  case first =>
    by_cases hz : EF = 0
    · have HN := Lib.hid (show EH = EW by rw [HHC.out, if_pos hz])
      subst hz
      go_wp2_with fail
      refine (HRW.out _).mono ?_
      rintro e w4 ⟨rfl, hb4⟩
      go_wp2
      go_meet
      case rel => exact ⟨by rw [HN.out], by (repeat' (first | (with_reducible exact Below.refl _ _) | (with_reducible assumption) | (with_reducible refine Below.next ?_ (by with_reducible assumption)) | (with_reducible refine Below.drew ?_) | (with_reducible refine Below.laid ?_ _) | (with_reducible refine Below.setCell ?_ ?_ _) | (with_reducible refine size_of ?_) | (with_reducible refine Nat.le_succ_of_le ?_) | go_size)), HB3.out.1.keep hb4, HB3.out.2.1.keep hb4, HB3.out.2.2.keep hb4⟩
    · have HN := Lib.hid (show EH = EF by rw [HHC.out, if_neg hz])
      have hq : (EF == 0) = false := by simpa using hz
      clear hz
      go_wp2
      go_meet
      case rel => exact ⟨by rw [HN.out], by (repeat' (first | (with_reducible exact Below.refl _ _) | (with_reducible assumption) | (with_reducible refine Below.next ?_ (by with_reducible assumption)) | (with_reducible refine Below.drew ?_) | (with_reducible refine Below.laid ?_ _) | (with_reducible refine Below.setCell ?_ ?_ _) | (with_reducible refine size_of ?_) | (with_reducible refine Nat.le_succ_of_le ?_) | go_size)), HB3.out⟩
  case rest =>
    obtain ⟨rfl, hw4, BF4, BW4, BG4⟩ := hcut
    obtain ⟨w4, rfl⟩ : ∃ w4 : World, w4 = wc := ⟨_, rfl⟩
    clear BF BW BG BF0 BF1 BFl BW0 BW1 BW2 BW3 BWl BG0 BG1 BGl HB3 hw1 hw2 hw3 hq1 hq2 hq3 hb1 hb2 hb3
    obtain ⟨⟨BF40, BF41⟩, _⟩ := BF4.cells2
    have BF4l := BF4.lt
    obtain ⟨BW40, BW41, BW42, BW43⟩ := BW4.cells4
    have BW4l := BW4.lt
    obtain ⟨⟨BG40, BG41⟩, _⟩ := BG4.cells2
    have BG4l := BG4.lt
    have HB4 := Lib.hid (And.intro BF4 (And.intro BW4 BG4))
    go_upto_if 30 with (fail)
    go_cut [9] (fun s9 wx => s9 = .bool VH ∧ Below w.heap.size w wx ∧ Blk wx w.heap.size 25 #[.slice A l.length cA, .slice C c.length cC] ∧ Blk wx (w.heap.size + 1) 28 #[.int .i64 th, .int .i64 x, .int .i64 y, .int .i64 z] ∧ Blk wx (w.heap.size + 1 + 1) 25 #[.slice B m.length cB, .slice D d.length cD])
    case first =>
      by_cases hz : EH = 0
      · have HN := Lib.hid (show VH = TV by rw [HHV.out, if_pos hz])
        obtain ⟨hf, hw⟩ := HZZ.out hz
        have HTR := Lib.hid (fun W h1 h2 => HRT.out hf hw W h1 h2)
        subst hz
        clear hf hw
        go_wp2_with fail
        refine (HTR.out _ (HA.out.keep (by (repeat' (first | (with_reducible exact Below.refl _ _) | (with_reducible assumption) | (with_reducible refine Below.next ?_ (by with_reducible assumption)) | (with_reducible refine Below.drew ?_) | (with_reducible refine Below.laid ?_ _) | (with_reducible refine Below.setCell ?_ ?_ _) | (with_reducible refine size_of ?_) | (with_reducible refine Nat.le_succ_of_le ?_) | go_size)))) (HC.out.keep (by (repeat' (first | (with_reducible exact Below.refl _ _) | (with_reducible assumption) | (with_reducible refine Below.next ?_ (by with_reducible assumption)) | (with_reducible refine Below.drew ?_) | (with_reducible refine Below.laid ?_ _) | (with_reducible refine Below.setCell ?_ ?_ _) | (with_reducible refine size_of ?_) | (with_reducible refine Nat.le_succ_of_le ?_) | go_size))))).mono ?_
        rintro e w5 ⟨rfl, hb5⟩
        go_wp2
        go_meet
        case rel => exact ⟨by rw [HN.out], by (repeat' (first | (with_reducible exact Below.refl _ _) | (with_reducible assumption) | (with_reducible refine Below.next ?_ (by with_reducible assumption)) | (with_reducible refine Below.drew ?_) | (with_reducible refine Below.laid ?_ _) | (with_reducible refine Below.setCell ?_ ?_ _) | (with_reducible refine size_of ?_) | (with_reducible refine Nat.le_succ_of_le ?_) | go_size)), HB4.out.1.keep hb5, HB4.out.2.1.keep hb5, HB4.out.2.2.keep hb5⟩
      · have HN := Lib.hid (show VH = false by rw [HHV.out, if_neg hz])
        have hq : (EH == 0) = false := by simpa using hz
        clear hz
        go_wp2
        go_meet
        case rel => exact ⟨by rw [HN.out], by (repeat' (first | (with_reducible exact Below.refl _ _) | (with_reducible assumption) | (with_reducible refine Below.next ?_ (by with_reducible assumption)) | (with_reducible refine Below.drew ?_) | (with_reducible refine Below.laid ?_ _) | (with_reducible refine Below.setCell ?_ ?_ _) | (with_reducible refine size_of ?_) | (with_reducible refine Nat.le_succ_of_le ?_) | go_size)), HB4.out⟩
    case rest =>
      obtain ⟨rfl, hw5, BF5, BW5, BG5⟩ := hcut
      obtain ⟨w5, rfl⟩ : ∃ w5 : World, w5 = wc := ⟨_, rfl⟩
      clear BF4 BW4 BG4 BF40 BF41 BF4l BW40 BW41 BW42 BW43 BW4l BG40 BG41 BG4l HB4 hw4
      obtain ⟨⟨BF50, BF51⟩, _⟩ := BF5.cells2
      have BF5l := BF5.lt
      obtain ⟨BW50, BW51, BW52, BW53⟩ := BW5.cells4
      have BW5l := BW5.lt
      obtain ⟨⟨BG50, BG51⟩, _⟩ := BG5.cells2
      have BG5l := BG5.lt
      go_wp2_with fail
      refine (HFH.out _ (HA.out.keep (by (repeat' (first | (with_reducible exact Below.refl _ _) | (with_reducible assumption) | (with_reducible refine Below.next ?_ (by with_reducible assumption)) | (with_reducible refine Below.drew ?_) | (with_reducible refine Below.laid ?_ _) | (with_reducible refine Below.setCell ?_ ?_ _) | (with_reducible refine size_of ?_) | (with_reducible refine Nat.le_succ_of_le ?_) | go_size)))) (HC.out.keep (by (repeat' (first | (with_reducible exact Below.refl _ _) | (with_reducible assumption) | (with_reducible refine Below.next ?_ (by with_reducible assumption)) | (with_reducible refine Below.drew ?_) | (with_reducible refine Below.laid ?_ _) | (with_reducible refine Below.setCell ?_ ?_ _) | (with_reducible refine size_of ?_) | (with_reducible refine Nat.le_succ_of_le ?_) | go_size)))) (HK.out.keep (by (repeat' (first | (with_reducible exact Below.refl _ _) | (with_reducible assumption) | (with_reducible refine Below.next ?_ (by with_reducible assumption)) | (with_reducible refine Below.drew ?_) | (with_reducible refine Below.laid ?_ _) | (with_reducible refine Below.setCell ?_ ?_ _) | (with_reducible refine size_of ?_) | (with_reducible refine Nat.le_succ_of_le ?_) | go_size))))).mono ?_
      rintro e w6 ⟨rfl, hb6⟩
      have hq6 : Below w5.heap.size w5 w6 := by (repeat' (first | (with_reducible exact Below.refl _ _) | (with_reducible assumption) | (with_reducible refine Below.next ?_ (by with_reducible assumption)) | (with_reducible refine Below.drew ?_) | (with_reducible refine Below.laid ?_ _) | (with_reducible refine Below.setCell ?_ ?_ _) | (with_reducible refine size_of ?_) | (with_reducible refine Nat.le_succ_of_le ?_) | go_size))
      have hw6 : Below w.heap.size w w6 := Below.next hw5 hq6
      replace BF5 := BF5.keep hq6
      try clear BF50 BF51 BF5l
      obtain ⟨⟨BF50, BF51⟩, _⟩ := BF5.cells2
      have BF5l := BF5.lt
      replace BG5 := BG5.keep hq6
      try clear BG50 BG51 BG5l
      obtain ⟨⟨BG50, BG51⟩, _⟩ := BG5.cells2
      have BG5l := BG5.lt
      go_wp2_with fail
      refine (vennsame_Error _ _ _ (HET.out.keep (by (repeat' (first | (with_reducible exact Below.refl _ _) | (with_reducible assumption) | (with_reducible refine Below.next ?_ (by with_reducible assumption)) | (with_reducible refine Below.drew ?_) | (with_reducible refine Below.laid ?_ _) | (with_reducible refine Below.setCell ?_ ?_ _) | (with_reducible refine size_of ?_) | (with_reducible refine Nat.le_succ_of_le ?_) | go_size))))).mono ?_
      rintro e w7 ⟨rfl, hb7⟩
      have hq7 : Below w6.heap.size w6 w7 := by (repeat' (first | (with_reducible exact Below.refl _ _) | (with_reducible assumption) | (with_reducible refine Below.next ?_ (by with_reducible assumption)) | (with_reducible refine Below.drew ?_) | (with_reducible refine Below.laid ?_ _) | (with_reducible refine Below.setCell ?_ ?_ _) | (with_reducible refine size_of ?_) | (with_reducible refine Nat.le_succ_of_le ?_) | go_size))
      have hw7 : Below w.heap.size w w7 := Below.next hw6 hq7
      replace BF5 := BF5.keep hq7
      try clear BF50 BF51 BF5l
      obtain ⟨⟨BF50, BF51⟩, _⟩ := BF5.cells2
      have BF5l := BF5.lt
      replace BG5 := BG5.keep hq7
      try clear BG50 BG51 BG5l
      obtain ⟨⟨BG50, BG51⟩, _⟩ := BG5.cells2
      have BG5l := BG5.lt
      rw [beq_self_eq_true]
      go_wp2_with fail
      refine (HRN.out _ (HA.out.keep (by (repeat' (first | (with_reducible exact Below.refl _ _) | (with_reducible assumption) | (with_reducible refine Below.next ?_ (by with_reducible assumption)) | (with_reducible refine Below.drew ?_) | (with_reducible refine Below.laid ?_ _) | (with_reducible refine Below.setCell ?_ ?_ _) | (with_reducible refine size_of ?_) | (with_reducible refine Nat.le_succ_of_le ?_) | go_size)))) (HC.out.keep (by (repeat' (first | (with_reducible exact Below.refl _ _) | (with_reducible assumption) | (with_reducible refine Below.next ?_ (by with_reducible assumption)) | (with_reducible refine Below.drew ?_) | (with_reducible refine Below.laid ?_ _) | (with_reducible refine Below.setCell ?_ ?_ _) | (with_reducible refine size_of ?_) | (with_reducible refine Nat.le_succ_of_le ?_) | go_size))))).mono ?_
      rintro e w8 ⟨N1, n1, N2, n2, rfl, hb8, hA8, hC8⟩
      have hw8 : Below w.heap.size w w8 := by (repeat' (first | (with_reducible exact Below.refl _ _) | (with_reducible assumption) | (with_reducible refine Below.next ?_ (by with_reducible assumption)) | (with_reducible refine Below.drew ?_) | (with_reducible refine Below.laid ?_ _) | (with_reducible refine Below.setCell ?_ ?_ _) | (with_reducible refine size_of ?_) | (with_reducible refine Nat.le_succ_of_le ?_) | go_size))
      replace BF5 := BF5.keep hb8
      replace BG5 := BG5.keep hb8
      have HA8 := Lib.hid hA8
      have HC8 := Lib.hid hC8
      clear BF50 BF51 BF5l BG50 BG51 BG5l hA8 hC8 hw5 hw6 hw7 hq6 hq7 hb6 hb7 hb8 BW5 BW50 BW51 BW52 BW53 BW5l
      simp only
      obtain ⟨⟨BF50, BF51⟩, _⟩ := BF5.cells2
      have BF5l := BF5.lt
      obtain ⟨⟨BG50, BG51⟩, _⟩ := BG5.cells2
      have BG5l := BG5.lt
      go_wp2_with fail
      refine (HFN.out _ (HA.out.keep (by (repeat' (first | (with_reducible exact Below.refl _ _) | (with_reducible assumption) | (with_reducible refine Below.next ?_ (by with_reducible assumption)) | (with_reducible refine Below.drew ?_) | (with_reducible refine Below.laid ?_ _) | (with_reducible refine Below.setCell ?_ ?_ _) | (with_reducible refine size_of ?_) | (with_reducible refine Nat.le_succ_of_le ?_) | go_size)))) (HC.out.keep (by (repeat' (first | (with_reducible exact Below.refl _ _) | (with_reducible assumption) | (with_reducible refine Below.next ?_ (by with_reducible assumption)) | (with_reducible refine Below.drew ?_) | (with_reducible refine Below.laid ?_ _) | (with_reducible refine Below.setCell ?_ ?_ _) | (with_reducible refine size_of ?_) | (with_reducible refine Nat.le_succ_of_le ?_) | go_size)))) (HK.out.keep (by (repeat' (first | (with_reducible exact Below.refl _ _) | (with_reducible assumption) | (with_reducible refine Below.next ?_ (by with_reducible assumption)) | (with_reducible refine Below.drew ?_) | (with_reducible refine Below.laid ?_ _) | (with_reducible refine Below.setCell ?_ ?_ _) | (with_reducible refine size_of ?_) | (with_reducible refine Nat.le_succ_of_le ?_) | go_size))))).mono ?_
      rintro e w9 ⟨N3, n3, N4, n4, rfl, hb9, hA9, hC9⟩
      have BN := (Blk.new w8 25 #[.slice N1 nl.length n1, .slice N2 nc.length n2]).keep hb9
      replace BF5 := (BF5.alloc _).keep hb9
      replace BG5 := (BG5.alloc _).keep hb9
      have HA9 := Lib.hid (And.intro hA9 (HA8.out.keep (show Below w8.heap.size w8 w9 by (repeat' (first | (with_reducible exact Below.refl _ _) | (with_reducible assumption) | (with_reducible refine Below.next ?_ (by with_reducible assumption)) | (with_reducible refine Below.drew ?_) | (with_reducible refine Below.laid ?_ _) | (with_reducible refine Below.setCell ?_ ?_ _) | (with_reducible refine size_of ?_) | (with_reducible refine Nat.le_succ_of_le ?_) | go_size)))))
      have HC9 := Lib.hid (And.intro hC9 (HC8.out.keep (show Below w8.heap.size w8 w9 by (repeat' (first | (with_reducible exact Below.refl _ _) | (with_reducible assumption) | (with_reducible refine Below.next ?_ (by with_reducible assumption)) | (with_reducible refine Below.drew ?_) | (with_reducible refine Below.laid ?_ _) | (with_reducible refine Below.setCell ?_ ?_ _) | (with_reducible refine size_of ?_) | (with_reducible refine Nat.le_succ_of_le ?_) | go_size)))))
      have hw9 : Below w.heap.size w w9 := by (repeat' (first | (with_reducible exact Below.refl _ _) | (with_reducible assumption) | (with_reducible refine Below.next ?_ (by with_reducible assumption)) | (with_reducible refine Below.drew ?_) | (with_reducible refine Below.laid ?_ _) | (with_reducible refine Below.setCell ?_ ?_ _) | (with_reducible refine size_of ?_) | (with_reducible refine Nat.le_succ_of_le ?_) | go_size))
      clear BF50 BF51 BF5l BG50 BG51 BG5l hA9 hC9 hw8 hb9 HA8 HC8
      simp only
      obtain ⟨⟨BF50, BF51⟩, _⟩ := BF5.cells2
      have BF5l := BF5.lt
      obtain ⟨⟨BG50, BG51⟩, _⟩ := BG5.cells2
      have BG5l := BG5.lt
      obtain ⟨⟨BN0, BN1⟩, _⟩ := BN.cells2
      have BNl := BN.lt
      go_wp2_with fail
      refine (vennsame_Error _ _ _ (HET.out.keep (by (repeat' (first | (with_reducible exact Below.refl _ _) | (with_reducible assumption) | (with_reducible refine Below.next ?_ (by with_reducible assumption)) | (with_reducible refine Below.drew ?_) | (with_reducible refine Below.laid ?_ _) | (with_reducible refine Below.setCell ?_ ?_ _) | (with_reducible refine size_of ?_) | (with_reducible refine Nat.le_succ_of_le ?_) | go_size))))).mono ?_
      rintro e w10 ⟨rfl, hb10⟩
      have hq10 : Below w9.heap.size w9 w10 := by (repeat' (first | (with_reducible exact Below.refl _ _) | (with_reducible assumption) | (with_reducible refine Below.next ?_ (by with_reducible assumption)) | (with_reducible refine Below.drew ?_) | (with_reducible refine Below.laid ?_ _) | (with_reducible refine Below.setCell ?_ ?_ _) | (with_reducible refine size_of ?_) | (with_reducible refine Nat.le_succ_of_le ?_) | go_size))
      have hw10 : Below w.heap.size w w10 := Below.next hw9 hq10
      have BM := (Blk.new w9 25 #[.slice N3 nl.length n3, .slice N4 nc.length n4]).keep hb10
      replace BF5 := BF5.keep hq10
      replace BG5 := BG5.keep hq10
      replace BN := BN.keep hq10
      have HA10 := Lib.hid (And.intro (HA9.out.1.keep hq10) (HA9.out.2.keep hq10))
      have HC10 := Lib.hid (And.intro (HC9.out.1.keep hq10) (HC9.out.2.keep hq10))
      rw [beq_self_eq_true]
      clear BF50 BF51 BF5l BG50 BG51 BG5l BN0 BN1 BNl HA9 HC9 hw9 hq10 hb10
      obtain ⟨⟨BF50, BF51⟩, _⟩ := BF5.cells2
      have BF5l := BF5.lt
      obtain ⟨⟨BG50, BG51⟩, _⟩ := BG5.cells2
      have BG5l := BG5.lt
      obtain ⟨⟨BN0, BN1⟩, _⟩ := BN.cells2
      have BNl := BN.lt
      obtain ⟨⟨BM0, BM1⟩, _⟩ := BM.cells2
      have BMl := BM.lt
      go_wp2_with fail
      refine (same_Form _ _ _ _ nl nc _ (HA10.out.1.keep (by (repeat' (first | (with_reducible exact Below.refl _ _) | (with_reducible assumption) | (with_reducible refine Below.next ?_ (by with_reducible assumption)) | (with_reducible refine Below.drew ?_) | (with_reducible refine Below.laid ?_ _) | (with_reducible refine Below.setCell ?_ ?_ _) | (with_reducible refine size_of ?_) | (with_reducible refine Nat.le_succ_of_le ?_) | go_size)))) (HC10.out.1.keep (by (repeat' (first | (with_reducible exact Below.refl _ _) | (with_reducible assumption) | (with_reducible refine Below.next ?_ (by with_reducible assumption)) | (with_reducible refine Below.drew ?_) | (with_reducible refine Below.laid ?_ _) | (with_reducible refine Below.setCell ?_ ?_ _) | (with_reducible refine size_of ?_) | (with_reducible refine Nat.le_succ_of_le ?_) | go_size)))) (HA10.out.2.keep (by (repeat' (first | (with_reducible exact Below.refl _ _) | (with_reducible assumption) | (with_reducible refine Below.next ?_ (by with_reducible assumption)) | (with_reducible refine Below.drew ?_) | (with_reducible refine Below.laid ?_ _) | (with_reducible refine Below.setCell ?_ ?_ _) | (with_reducible refine size_of ?_) | (with_reducible refine Nat.le_succ_of_le ?_) | go_size)))) (HC10.out.2.keep (by (repeat' (first | (with_reducible exact Below.refl _ _) | (with_reducible assumption) | (with_reducible refine Below.next ?_ (by with_reducible assumption)) | (with_reducible refine Below.drew ?_) | (with_reducible refine Below.laid ?_ _) | (with_reducible refine Below.setCell ?_ ?_ _) | (with_reducible refine size_of ?_) | (with_reducible refine Nat.le_succ_of_le ?_) | go_size))))).mono ?_
      rintro e w11 ⟨rfl, hb11⟩
      have hw11 : Below w.heap.size w w11 := Below.next hw10 hb11
      replace BF5 := BF5.keep hb11
      replace BG5 := BG5.keep hb11
      clear BF50 BF51 BF5l BG50 BG51 BG5l BN BN0 BN1 BNl BM BM0 BM1 BMl HA10 HC10 hw10 hb11
      obtain ⟨⟨BF50, BF51⟩, _⟩ := BF5.cells2
      have BF5l := BF5.lt
      obtain ⟨⟨BG50, BG51⟩, _⟩ := BG5.cells2
      have BG5l := BG5.lt
      go_wp2_with fail
      refine (HRB.out _ (HA.out.keep (by (repeat' (first | (with_reducible exact Below.refl _ _) | (with_reducible assumption) | (with_reducible refine Below.next ?_ (by with_reducible assumption)) | (with_reducible refine Below.drew ?_) | (with_reducible refine Below.laid ?_ _) | (with_reducible refine Below.setCell ?_ ?_ _) | (with_reducible refine size_of ?_) | (with_reducible refine Nat.le_succ_of_le ?_) | go_size)))) (HC.out.keep (by (repeat' (first | (with_reducible exact Below.refl _ _) | (with_reducible assumption) | (with_reducible refine Below.next ?_ (by with_reducible assumption)) | (with_reducible refine Below.drew ?_) | (with_reducible refine Below.laid ?_ _) | (with_reducible refine Below.setCell ?_ ?_ _) | (with_reducible refine size_of ?_) | (with_reducible refine Nat.le_succ_of_le ?_) | go_size)))) (HB.out.keep (by (repeat' (first | (with_reducible exact Below.refl _ _) | (with_reducible assumption) | (with_reducible refine Below.next ?_ (by with_reducible assumption)) | (with_reducible refine Below.drew ?_) | (with_reducible refine Below.laid ?_ _) | (with_reducible refine Below.setCell ?_ ?_ _) | (with_reducible refine size_of ?_) | (with_reducible refine Nat.le_succ_of_le ?_) | go_size)))) (HD.out.keep (by (repeat' (first | (with_reducible exact Below.refl _ _) | (with_reducible assumption) | (with_reducible refine Below.next ?_ (by with_reducible assumption)) | (with_reducible refine Below.drew ?_) | (with_reducible refine Below.laid ?_ _) | (with_reducible refine Below.setCell ?_ ?_ _) | (with_reducible refine size_of ?_) | (with_reducible refine Nat.le_succ_of_le ?_) | go_size))))).mono ?_
      rintro e w12 ⟨N1, n1, N2, n2, rfl, hb12, hA8, hC8⟩
      have hw12 : Below w.heap.size w w12 := by (repeat' (first | (with_reducible exact Below.refl _ _) | (with_reducible assumption) | (with_reducible refine Below.next ?_ (by with_reducible assumption)) | (with_reducible refine Below.drew ?_) | (with_reducible refine Below.laid ?_ _) | (with_reducible refine Below.setCell ?_ ?_ _) | (with_reducible refine size_of ?_) | (with_reducible refine Nat.le_succ_of_le ?_) | go_size))
      replace BF5 := BF5.keep hb12
      replace BG5 := BG5.keep hb12
      have HA8 := Lib.hid hA8
      have HC8 := Lib.hid hC8
      clear BF50 BF51 BF5l BG50 BG51 BG5l hA8 hC8 hw11 hb12
      simp only
      obtain ⟨⟨BF50, BF51⟩, _⟩ := BF5.cells2
      have BF5l := BF5.lt
      obtain ⟨⟨BG50, BG51⟩, _⟩ := BG5.cells2
      have BG5l := BG5.lt
      go_wp2_with fail
      refine (HFB.out _ (HA.out.keep (by (repeat' (first | (with_reducible exact Below.refl _ _) | (with_reducible assumption) | (with_reducible refine Below.next ?_ (by with_reducible assumption)) | (with_reducible refine Below.drew ?_) | (with_reducible refine Below.laid ?_ _) | (with_reducible refine Below.setCell ?_ ?_ _) | (with_reducible refine size_of ?_) | (with_reducible refine Nat.le_succ_of_le ?_) | go_size)))) (HC.out.keep (by (repeat' (first | (with_reducible exact Below.refl _ _) | (with_reducible assumption) | (with_reducible refine Below.next ?_ (by with_reducible assumption)) | (with_reducible refine Below.drew ?_) | (with_reducible refine Below.laid ?_ _) | (with_reducible refine Below.setCell ?_ ?_ _) | (with_reducible refine size_of ?_) | (with_reducible refine Nat.le_succ_of_le ?_) | go_size)))) (HB.out.keep (by (repeat' (first | (with_reducible exact Below.refl _ _) | (with_reducible assumption) | (with_reducible refine Below.next ?_ (by with_reducible assumption)) | (with_reducible refine Below.drew ?_) | (with_reducible refine Below.laid ?_ _) | (with_reducible refine Below.setCell ?_ ?_ _) | (with_reducible refine size_of ?_) | (with_reducible refine Nat.le_succ_of_le ?_) | go_size)))) (HD.out.keep (by (repeat' (first | (with_reducible exact Below.refl _ _) | (with_reducible assumption) | (with_reducible refine Below.next ?_ (by with_reducible assumption)) | (with_reducible refine Below.drew ?_) | (with_reducible refine Below.laid ?_ _) | (with_reducible refine Below.setCell ?_ ?_ _) | (with_reducible refine size_of ?_) | (with_reducible refine Nat.le_succ_of_le ?_) | go_size)))) (HK.out.keep (by (repeat' (first | (with_reducible exact Below.refl _ _) | (with_reducible assumption) | (with_reducible refine Below.next ?_ (by with_reducible assumption)) | (with_reducible refine Below.drew ?_) | (with_reducible refine Below.laid ?_ _) | (with_reducible refine Below.setCell ?_ ?_ _) | (with_reducible refine size_of ?_) | (with_reducible refine Nat.le_succ_of_le ?_) | go_size))))).mono ?_
      rintro e w13 ⟨N3, n3, N4, n4, rfl, hb13, hA9, hC9⟩
      have BN := (Blk.new w12 25 #[.slice N1 bl.length n1, .slice N2 bc.length n2]).keep hb13
      have HA9 := Lib.hid (And.intro hA9 (HA8.out.keep (show Below w12.heap.size w12 w13 by (repeat' (first | (with_reducible exact Below.refl _ _) | (with_reducible assumption) | (with_reducible refine Below.next ?_ (by with_reducible assumption)) | (with_reducible refine Below.drew ?_) | (with_reducible refine Below.laid ?_ _) | (with_reducible refine Below.setCell ?_ ?_ _) | (with_reducible refine size_of ?_) | (with_reducible refine Nat.le_succ_of_le ?_) | go_size)))))
      have HC9 := Lib.hid (And.intro hC9 (HC8.out.keep (show Below w12.heap.size w12 w13 by (repeat' (first | (with_reducible exact Below.refl _ _) | (with_reducible assumption) | (with_reducible refine Below.next ?_ (by with_reducible assumption)) | (with_reducible refine Below.drew ?_) | (with_reducible refine Below.laid ?_ _) | (with_reducible refine Below.setCell ?_ ?_ _) | (with_reducible refine size_of ?_) | (with_reducible refine Nat.le_succ_of_le ?_) | go_size)))))
      have hw13 : Below w.heap.size w w13 := by (repeat' (first | (with_reducible exact Below.refl _ _) | (with_reducible assumption) | (with_reducible refine Below.next ?_ (by with_reducible assumption)) | (with_reducible refine Below.drew ?_) | (with_reducible refine Below.laid ?_ _) | (with_reducible refine Below.setCell ?_ ?_ _) | (with_reducible refine size_of ?_) | (with_reducible refine Nat.le_succ_of_le ?_) | go_size))
      clear BF5 BG5 BF50 BF51 BF5l BG50 BG51 BG5l hA9 hC9 hw12 hb13 HA8 HC8
      simp only
      obtain ⟨⟨BN0, BN1⟩, _⟩ := BN.cells2
      have BNl := BN.lt
      go_wp2_with fail
      refine (vennsame_Error _ _ _ (HET.out.keep (by (repeat' (first | (with_reducible exact Below.refl _ _) | (with_reducible assumption) | (with_reducible refine Below.next ?_ (by with_reducible assumption)) | (with_reducible refine Below.drew ?_) | (with_reducible refine Below.laid ?_ _) | (with_reducible refine Below.setCell ?_ ?_ _) | (with_reducible refine size_of ?_) | (with_reducible refine Nat.le_succ_of_le ?_) | go_size))))).mono ?_
      rintro e w14 ⟨rfl, hb14⟩
      have hq14 : Below w13.heap.size w13 w14 := by (repeat' (first | (with_reducible exact Below.refl _ _) | (with_reducible assumption) | (with_reducible refine Below.next ?_ (by with_reducible assumption)) | (with_reducible refine Below.drew ?_) | (with_reducible refine Below.laid ?_ _) | (with_reducible refine Below.setCell ?_ ?_ _) | (with_reducible refine size_of ?_) | (with_reducible refine Nat.le_succ_of_le ?_) | go_size))
      have hw14 : Below w.heap.size w w14 := Below.next hw13 hq14
      have BM := (Blk.new w13 25 #[.slice N3 bl.length n3, .slice N4 bc.length n4]).keep hb14
      replace BN := BN.keep hq14
      have HA10 := Lib.hid (And.intro (HA9.out.1.keep hq14) (HA9.out.2.keep hq14))
      have HC10 := Lib.hid (And.intro (HC9.out.1.keep hq14) (HC9.out.2.keep hq14))
      rw [beq_self_eq_true]
      clear BN0 BN1 BNl HA9 HC9 hw13 hq14 hb14
      obtain ⟨⟨BN0, BN1⟩, _⟩ := BN.cells2
      have BNl := BN.lt
      obtain ⟨⟨BM0, BM1⟩, _⟩ := BM.cells2
      have BMl := BM.lt
      go_wp2_with fail
      refine (same_Form _ _ _ _ bl bc _ (HA10.out.1.keep (by (repeat' (first | (with_reducible exact Below.refl _ _) | (with_reducible assumption) | (with_reducible refine Below.next ?_ (by with_reducible assumption)) | (with_reducible refine Below.drew ?_) | (with_reducible refine Below.laid ?_ _) | (with_reducible refine Below.setCell ?_ ?_ _) | (with_reducible refine size_of ?_) | (with_reducible refine Nat.le_succ_of_le ?_) | go_size)))) (HC10.out.1.keep (by (repeat' (first | (with_reducible exact Below.refl _ _) | (with_reducible assumption) | (with_reducible refine Below.next ?_ (by with_reducible assumption)) | (with_reducible refine Below.drew ?_) | (with_reducible refine Below.laid ?_ _) | (with_reducible refine Below.setCell ?_ ?_ _) | (with_reducible refine size_of ?_) | (with_reducible refine Nat.le_succ_of_le ?_) | go_size)))) (HA10.out.2.keep (by (repeat' (first | (with_reducible exact Below.refl _ _) | (with_reducible assumption) | (with_reducible refine Below.next ?_ (by with_reducible assumption)) | (with_reducible refine Below.drew ?_) | (with_reducible refine Below.laid ?_ _) | (with_reducible refine Below.setCell ?_ ?_ _) | (with_reducible refine size_of ?_) | (with_reducible refine Nat.le_succ_of_le ?_) | go_size)))) (HC10.out.2.keep (by (repeat' (first | (with_reducible exact Below.refl _ _) | (with_reducible assumption) | (with_reducible refine Below.next ?_ (by with_reducible assumption)) | (with_reducible refine Below.drew ?_) | (with_reducible refine Below.laid ?_ _) | (with_reducible refine Below.setCell ?_ ?_ _) | (with_reducible refine size_of ?_) | (with_reducible refine Nat.le_succ_of_le ?_) | go_size))))).mono ?_
      rintro e w15 ⟨rfl, hb15⟩
      have hw15 : Below w.heap.size w w15 := Below.next hw14 hb15
      go_wp2
      go_ret
      exact ⟨by simp, hw15⟩
end Go.Proofs.YtcecbpbpknphjaaDoor
