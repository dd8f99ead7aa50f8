/-
  THE WALK of vennlaw2.AskTells.
-/
import Derived.Test.YtcecbpbpknphjaaDoorRefAsk
import Derived.Test.YtcecbpbpknphjaaDoorAskAlways
import Derived.Test.YtcecbpbpknphjaaDoorLawF
import Derived.Deep.DeepCutAuto
namespace Go.Proofs.YtcecbpbpknphjaaDoor
open Go.RowKit

set_option maxHeartbeats 8000000 in
set_option maxRecDepth 100000 in
theorem askTells_walk (v sa sc : Value) (ls : List Venn.Form) (l : List Venn.Atom) (c : List Int) (u : Int) (w : World) (hl : IsForms w v ls) (ha : IsAtoms w sa l) (hc : IsInts w sc c) (hk : KindsOk w) (het : EtOk w) :
    Calls Tryd.prog 7 #[v, .agg #[sa, sc], .int .i64 u] w (Keeps (.bool true) w) := by
  obtain ⟨L, cL, rfl, hrl⟩ := hl
  have HL := Lib.hid (show IsForms w (.slice L ls.length cL) ls from ⟨L, cL, rfl, hrl⟩)
  obtain ⟨A, cA, rfl⟩ := ha.slice
  obtain ⟨C, cC, rfl⟩ := hc.slice
  have HA := Lib.hid ha
  have HC := Lib.hid hc
  have HK := Lib.hid hk
  have HET := Lib.hid het
  clear hrl ha hc hk het
  have HFA := Lib.hid (fun W h1 h2 => ref_Form (.slice A l.length cA) (.slice C c.length cC) l c W h1 h2)
  have HCU := Lib.hid (fun W h => ref_Forms (.slice L ls.length cL) ls u W h)
  have HC0 := Lib.hid (fun W h => ref_Forms (.slice L ls.length cL) ls 0 W h)
  have HOF := Lib.hid (fun W h1 h2 h3 h4 => ask_Of (.slice L ls.length cL) (.slice A l.length cA) (.slice C c.length cC) ls l c u W h1 h2 h3 h4)
  have HAL := Lib.hid (fun W h1 h2 h3 h4 => ask_Always (.slice L ls.length cL) (.slice A l.length cA) (.slice C c.length cC) ls l c W h1 h2 h3 h4)
  have HAU := Lib.hid (fun (h : Venn.askChk ls ⟨l, c⟩ u = 0) W h1 h2 h3 => ref_Ask (.slice L ls.length cL) (.slice A l.length cA) (.slice C c.length cC) ls l c u W h1 (Venn.formsChk_mem (Venn.coreChk_parts (Venn.askChk_parts h).1).2.2.1) h2 h3 (Venn.askChk_parts h).2 (Venn.coreChk_parts (Venn.askChk_parts h).1).2.2.2)
  have HAK := Lib.hid (fun (h : Venn.askChk ls ⟨l, c⟩ 0 = 0) (k : Nat) (hk : k < 7) W h1 h2 h3 => ref_Ask (.slice L ls.length cL) (.slice A l.length cA) (.slice C c.length cC) ls l c (k : Int) W h1 (Venn.formsChk_mem (Venn.coreChk_parts (Venn.askChk_parts h).1).2.2.1) h2 h3 (Venn.askChk_parts h).2 (by simp [Venn.things]; omega))
  have HYN := Lib.hid (show Venn.things u = true → Venn.yesOf ls ⟨l, c⟩ (Venn.allC u) + Venn.noOf ls ⟨l, c⟩ (Venn.allC u) ≤ 90000 from fun h => Nat.le_trans (Venn.yesno_le ls ⟨l, c⟩ (Venn.allC u)) (allC_len2 (by simpa [Venn.things] using h)))
  have HTU := Lib.hid (show Venn.askChk ls ⟨l, c⟩ u = 0 → Venn.things u = true from fun h => (Venn.coreChk_parts (Venn.askChk_parts h).1).2.2.2)
  have HQ1 := Lib.hid (show Venn.askChk ls ⟨l, c⟩ u = if Venn.coreChk ls u = 0 then Venn.formChk ⟨l, c⟩ else Venn.coreChk ls u from rfl)
  have HQ0 := Lib.hid (show Venn.askChk ls ⟨l, c⟩ 0 = if Venn.coreChk ls 0 = 0 then Venn.formChk ⟨l, c⟩ else Venn.coreChk ls 0 from rfl)
  have HE1 := Lib.hid (show Venn.askErr ls ⟨l, c⟩ u = if Venn.askChk ls ⟨l, c⟩ u = 0 then (if Venn.yesOf ls ⟨l, c⟩ (Venn.allC u) + Venn.noOf ls ⟨l, c⟩ (Venn.allC u) = 0 then 6 else 0) else Venn.askChk ls ⟨l, c⟩ u from rfl)
  have HV1 := Lib.hid (show Venn.askV ls ⟨l, c⟩ u = if Venn.askErr ls ⟨l, c⟩ u = 0 then Venn.answer (Venn.yesOf ls ⟨l, c⟩ (Venn.allC u)) (Venn.noOf ls ⟨l, c⟩ (Venn.allC u)) else 0 from rfl)
  have HOV := Lib.hid (show askVv ls ⟨l, c⟩ u = .tuple #[.int .i64 (Venn.askV ls ⟨l, c⟩ u), errV (Venn.askErr ls ⟨l, c⟩ u)] from rfl)
  have HE0 := Lib.hid (show Venn.alwaysErr ls ⟨l, c⟩ = if Venn.askChk ls ⟨l, c⟩ 0 = 0 then (if Venn.yesTo ls ⟨l, c⟩ 7 + Venn.noTo ls ⟨l, c⟩ 7 = 0 then 6 else 0) else Venn.askChk ls ⟨l, c⟩ 0 from rfl)
  have HV0 := Lib.hid (show Venn.alwaysV ls ⟨l, c⟩ = if Venn.alwaysErr ls ⟨l, c⟩ = 0 then Venn.answer (Venn.yesTo ls ⟨l, c⟩ 7) (Venn.noTo ls ⟨l, c⟩ 7) else 0 from rfl)
  have HAV := Lib.hid (show alwaysVv ls ⟨l, c⟩ = .tuple #[.int .i64 (Venn.alwaysV ls ⟨l, c⟩), errV (Venn.alwaysErr ls ⟨l, c⟩)] from rfl)
  have HTO := Lib.hid (Venn.to_le ls ⟨l, c⟩)
  have HSY := Lib.hid (show ∀ k, Venn.yesTo ls ⟨l, c⟩ (k + 1) = Venn.yesTo ls ⟨l, c⟩ k + Venn.yesOf ls ⟨l, c⟩ (Venn.allC (k : Int)) from fun _ => rfl)
  have HSN := Lib.hid (show ∀ k, Venn.noTo ls ⟨l, c⟩ (k + 1) = Venn.noTo ls ⟨l, c⟩ k + Venn.noOf ls ⟨l, c⟩ (Venn.allC (k : Int)) from fun _ => rfl)
  have HZ := Lib.hid (show Venn.yesTo ls ⟨l, c⟩ 0 = 0 ∧ Venn.noTo ls ⟨l, c⟩ 0 = 0 from ⟨rfl, rfl⟩)
  generalize Venn.formChk ⟨l, c⟩ = EF at HFA HQ1 HQ0
  generalize Venn.coreChk ls u = EU at HCU HQ1
  generalize Venn.coreChk ls 0 = EZ at HC0 HQ0
  generalize Venn.askChk ls ⟨l, c⟩ u = KU at HAU HTU HQ1 HE1
  generalize Venn.askChk ls ⟨l, c⟩ 0 = K0 at HAK HQ0 HE0
  generalize askVv ls ⟨l, c⟩ u = RO at HOF HOV
  generalize alwaysVv ls ⟨l, c⟩ = RA at HAL HAV
  generalize Venn.askV ls ⟨l, c⟩ u = VU at HV1 HOV
  generalize Venn.askErr ls ⟨l, c⟩ u = XU at HE1 HV1 HOV
  generalize Venn.alwaysV ls ⟨l, c⟩ = V0 at HV0 HAV
  generalize Venn.alwaysErr ls ⟨l, c⟩ = X0 at HE0 HV0 HAV
  generalize Venn.yesOf ls ⟨l, c⟩ (Venn.allC u) = YU at HAU HYN HE1 HV1
  generalize Venn.noOf ls ⟨l, c⟩ (Venn.allC u) = NU at HAU HYN HE1 HV1
  generalize Venn.yesTo ls ⟨l, c⟩ = YT at HE0 HV0 HTO HSY HZ
  generalize Venn.noTo ls ⟨l, c⟩ = NT at HE0 HV0 HTO HSN HZ
  go_enter Tryd.func7, Tryd.ntmps7
  go_wp2_with fail
  refine (HCU.out _ (HL.out.keep (by (repeat' (first | (with_reducible exact Below.refl _ _) | (with_reducible assumption) | (with_reducible refine Below.next ?_ (by with_reducible assumption)) | (with_reducible refine Below.drew ?_) | (with_reducible refine Below.laid ?_ _) | (with_reducible refine Below.setCell ?_ ?_ _) | (with_reducible refine size_of ?_) | (with_reducible refine Nat.le_succ_of_le ?_) | go_size))))).mono ?_
  rintro e w1 ⟨rfl, hb1⟩
  have hq1 : Below w.heap.size w w1 := by (repeat' (first | (with_reducible exact Below.refl _ _) | (with_reducible assumption) | (with_reducible refine Below.next ?_ (by with_reducible assumption)) | (with_reducible refine Below.drew ?_) | (with_reducible refine Below.laid ?_ _) | (with_reducible refine Below.setCell ?_ ?_ _) | (with_reducible refine size_of ?_) | (with_reducible refine Nat.le_succ_of_le ?_) | go_size))
  have hw1 : Below w.heap.size w w1 := hq1
  have BF : Blk w1 w.heap.size 25 #[.slice A l.length cA, .slice C c.length cC] := (Blk.new w _ _).keep hb1
  have HB1 := Lib.hid BF
  clear hb1 hq1
  go_upto_if 24 with (fail)
  go_cut [7] (fun s7 wx => s7 = .int .i64 KU ∧ Below w.heap.size w wx ∧ Blk wx w.heap.size 25 #[.slice A l.length cA, .slice C c.length cC])
  case first =>
    obtain ⟨⟨BF0, BF1⟩, _⟩ := BF.cells2
    have BFl := BF.lt
    by_cases hz : EU = 0
    · have HN := Lib.hid (show KU = EF by rw [HQ1.out, if_pos hz])
      subst hz
      go_wp2_with fail
      refine (HFA.out _ (HA.out.keep (by (repeat' (first | (with_reducible exact Below.refl _ _) | (with_reducible assumption) | (with_reducible refine Below.next ?_ (by with_reducible assumption)) | (with_reducible refine Below.drew ?_) | (with_reducible refine Below.laid ?_ _) | (with_reducible refine Below.setCell ?_ ?_ _) | (with_reducible refine size_of ?_) | (with_reducible refine Nat.le_succ_of_le ?_) | go_size)))) (HC.out.keep (by (repeat' (first | (with_reducible exact Below.refl _ _) | (with_reducible assumption) | (with_reducible refine Below.next ?_ (by with_reducible assumption)) | (with_reducible refine Below.drew ?_) | (with_reducible refine Below.laid ?_ _) | (with_reducible refine Below.setCell ?_ ?_ _) | (with_reducible refine size_of ?_) | (with_reducible refine Nat.le_succ_of_le ?_) | go_size))))).mono ?_
      rintro e w2 ⟨rfl, hb2⟩
      go_wp2
      go_meet
      case rel => exact ⟨by rw [HN.out], by (repeat' (first | (with_reducible exact Below.refl _ _) | (with_reducible assumption) | (with_reducible refine Below.next ?_ (by with_reducible assumption)) | (with_reducible refine Below.drew ?_) | (with_reducible refine Below.laid ?_ _) | (with_reducible refine Below.setCell ?_ ?_ _) | (with_reducible refine size_of ?_) | (with_reducible refine Nat.le_succ_of_le ?_) | go_size)), HB1.out.keep hb2⟩
    · have HN := Lib.hid (show KU = EU by rw [HQ1.out, if_neg hz])
      have hq : (EU == 0) = false := by simpa using hz
      clear hz
      go_wp2
      go_meet
      case rel => exact ⟨by rw [HN.out], by (repeat' (first | (with_reducible exact Below.refl _ _) | (with_reducible assumption) | (with_reducible refine Below.next ?_ (by with_reducible assumption)) | (with_reducible refine Below.drew ?_) | (with_reducible refine Below.laid ?_ _) | (with_reducible refine Below.setCell ?_ ?_ _) | (with_reducible refine size_of ?_) | (with_reducible refine Nat.le_succ_of_le ?_) | go_size)), HB1.out⟩
  case rest =>
    obtain ⟨rfl, hw2, BF2⟩ := hcut
    obtain ⟨w2, rfl⟩ : ∃ w2 : World, w2 = wc := ⟨_, rfl⟩
    have HB2 := Lib.hid BF2
    clear BF HB1
    go_upto_if 28 with (fail)
    go_cut [7, 8] (fun s7 s8 wx => s7 = .int .i64 XU ∧ s8 = .int .i64 VU ∧ Below w.heap.size w wx ∧ Blk wx w.heap.size 25 #[.slice A l.length cA, .slice C c.length cC])
    case first =>
      obtain ⟨⟨BF20, BF21⟩, _⟩ := BF2.cells2
      have BF2l := BF2.lt
      by_cases hz : KU = 0
      · have hyn := HYN.out (HTU.out hz)
        have HAS := Lib.hid (HAU.out hz)
        have hwr : IntKind.i64.wrap ((YU : Int) + (NU : Int)) = (YU : Int) + (NU : Int) := IntWalk.i64_in _ (by omega)
        by_cases hs : YU + NU = 0
        · have HX := Lib.hid (show XU = 6 by rw [HE1.out, if_pos hz, if_pos hs])
          have HV := Lib.hid (show VU = 0 by rw [HV1.out, HX.out, if_neg (by decide)])
          have e1 : ((YU : Int) + (NU : Int) == 0) = true := beq_iff_eq.2 (by omega)
          subst hz
          clear hs
          go_wp2_with fail
          refine (HAS.out _ (HL.out.keep (by (repeat' (first | (with_reducible exact Below.refl _ _) | (with_reducible assumption) | (with_reducible refine Below.next ?_ (by with_reducible assumption)) | (with_reducible refine Below.drew ?_) | (with_reducible refine Below.laid ?_ _) | (with_reducible refine Below.setCell ?_ ?_ _) | (with_reducible refine size_of ?_) | (with_reducible refine Nat.le_succ_of_le ?_) | go_size)))) (HA.out.keep (by (repeat' (first | (with_reducible exact Below.refl _ _) | (with_reducible assumption) | (with_reducible refine Below.next ?_ (by with_reducible assumption)) | (with_reducible refine Below.drew ?_) | (with_reducible refine Below.laid ?_ _) | (with_reducible refine Below.setCell ?_ ?_ _) | (with_reducible refine size_of ?_) | (with_reducible refine Nat.le_succ_of_le ?_) | go_size)))) (HC.out.keep (by (repeat' (first | (with_reducible exact Below.refl _ _) | (with_reducible assumption) | (with_reducible refine Below.next ?_ (by with_reducible assumption)) | (with_reducible refine Below.drew ?_) | (with_reducible refine Below.laid ?_ _) | (with_reducible refine Below.setCell ?_ ?_ _) | (with_reducible refine size_of ?_) | (with_reducible refine Nat.le_succ_of_le ?_) | go_size))))).mono ?_
          rintro e w3 ⟨rfl, hb3⟩
          go_wp2
          go_meet
          case rel => exact ⟨by rw [HX.out], by rw [HV.out], by (repeat' (first | (with_reducible exact Below.refl _ _) | (with_reducible assumption) | (with_reducible refine Below.next ?_ (by with_reducible assumption)) | (with_reducible refine Below.drew ?_) | (with_reducible refine Below.laid ?_ _) | (with_reducible refine Below.setCell ?_ ?_ _) | (with_reducible refine size_of ?_) | (with_reducible refine Nat.le_succ_of_le ?_) | go_size)), HB2.out.keep hb3⟩
        · have HX := Lib.hid (show XU = 0 by rw [HE1.out, if_pos hz, if_neg hs])
          have HV := Lib.hid (show VU = Venn.answer YU NU by rw [HV1.out, HX.out, if_pos rfl])
          have e1 : ((YU : Int) + (NU : Int) == 0) = false := beq_eq_false_iff_ne.2 (by omega)
          subst hz
          clear hs
          go_wp2_with fail
          refine (HAS.out _ (HL.out.keep (by (repeat' (first | (with_reducible exact Below.refl _ _) | (with_reducible assumption) | (with_reducible refine Below.next ?_ (by with_reducible assumption)) | (with_reducible refine Below.drew ?_) | (with_reducible refine Below.laid ?_ _) | (with_reducible refine Below.setCell ?_ ?_ _) | (with_reducible refine size_of ?_) | (with_reducible refine Nat.le_succ_of_le ?_) | go_size)))) (HA.out.keep (by (repeat' (first | (with_reducible exact Below.refl _ _) | (with_reducible assumption) | (with_reducible refine Below.next ?_ (by with_reducible assumption)) | (with_reducible refine Below.drew ?_) | (with_reducible refine Below.laid ?_ _) | (with_reducible refine Below.setCell ?_ ?_ _) | (with_reducible refine size_of ?_) | (with_reducible refine Nat.le_succ_of_le ?_) | go_size)))) (HC.out.keep (by (repeat' (first | (with_reducible exact Below.refl _ _) | (with_reducible assumption) | (with_reducible refine Below.next ?_ (by with_reducible assumption)) | (with_reducible refine Below.drew ?_) | (with_reducible refine Below.laid ?_ _) | (with_reducible refine Below.setCell ?_ ?_ _) | (with_reducible refine size_of ?_) | (with_reducible refine Nat.le_succ_of_le ?_) | go_size))))).mono ?_
          rintro e w3 ⟨rfl, hb3⟩
          go_wp2_with (go_at_call 34; refine (ref_Answer _ _ _).mono ?_; rintro e w' ⟨rfl, rfl⟩)
          go_meet
          case rel => exact ⟨by rw [HX.out], by rw [HV.out], by (repeat' (first | (with_reducible exact Below.refl _ _) | (with_reducible assumption) | (with_reducible refine Below.next ?_ (by with_reducible assumption)) | (with_reducible refine Below.drew ?_) | (with_reducible refine Below.laid ?_ _) | (with_reducible refine Below.setCell ?_ ?_ _) | (with_reducible refine size_of ?_) | (with_reducible refine Nat.le_succ_of_le ?_) | go_size)), HB2.out.keep hb3⟩
      · have HX := Lib.hid (show XU = KU by rw [HE1.out, if_neg hz])
        have HV := Lib.hid (show VU = 0 by rw [HV1.out, HX.out, if_neg hz])
        have hq : (KU == 0) = false := by simpa using hz
        clear hz
        go_wp2
        go_meet
        case rel => exact ⟨by rw [HX.out], by rw [HV.out], by (repeat' (first | (with_reducible exact Below.refl _ _) | (with_reducible assumption) | (with_reducible refine Below.next ?_ (by with_reducible assumption)) | (with_reducible refine Below.drew ?_) | (with_reducible refine Below.laid ?_ _) | (with_reducible refine Below.setCell ?_ ?_ _) | (with_reducible refine size_of ?_) | (with_reducible refine Nat.le_succ_of_le ?_) | go_size)), HB2.out⟩
    case rest =>
      obtain ⟨rfl, rfl, hw3, BF3⟩ := hcut
      obtain ⟨w3, rfl⟩ : ∃ w3 : World, w3 = wc := ⟨_, rfl⟩
      clear BF2 HB2 hw2
      obtain ⟨⟨BF30, BF31⟩, _⟩ := BF3.cells2
      have BF3l := BF3.lt
      go_wp2_with fail
      refine (HOF.out _ (HL.out.keep (by (repeat' (first | (with_reducible exact Below.refl _ _) | (with_reducible assumption) | (with_reducible refine Below.next ?_ (by with_reducible assumption)) | (with_reducible refine Below.drew ?_) | (with_reducible refine Below.laid ?_ _) | (with_reducible refine Below.setCell ?_ ?_ _) | (with_reducible refine size_of ?_) | (with_reducible refine Nat.le_succ_of_le ?_) | go_size)))) (HA.out.keep (by (repeat' (first | (with_reducible exact Below.refl _ _) | (with_reducible assumption) | (with_reducible refine Below.next ?_ (by with_reducible assumption)) | (with_reducible refine Below.drew ?_) | (with_reducible refine Below.laid ?_ _) | (with_reducible refine Below.setCell ?_ ?_ _) | (with_reducible refine size_of ?_) | (with_reducible refine Nat.le_succ_of_le ?_) | go_size)))) (HC.out.keep (by (repeat' (first | (with_reducible exact Below.refl _ _) | (with_reducible assumption) | (with_reducible refine Below.next ?_ (by with_reducible assumption)) | (with_reducible refine Below.drew ?_) | (with_reducible refine Below.laid ?_ _) | (with_reducible refine Below.setCell ?_ ?_ _) | (with_reducible refine size_of ?_) | (with_reducible refine Nat.le_succ_of_le ?_) | go_size)))) (HK.out.keep (by (repeat' (first | (with_reducible exact Below.refl _ _) | (with_reducible assumption) | (with_reducible refine Below.next ?_ (by with_reducible assumption)) | (with_reducible refine Below.drew ?_) | (with_reducible refine Below.laid ?_ _) | (with_reducible refine Below.setCell ?_ ?_ _) | (with_reducible refine size_of ?_) | (with_reducible refine Nat.le_succ_of_le ?_) | go_size))))).mono ?_
      rintro e w4 ⟨rfl, hb4⟩
      rw [HOV.out]
      have hq4 : Below w3.heap.size w3 w4 := by (repeat' (first | (with_reducible exact Below.refl _ _) | (with_reducible assumption) | (with_reducible refine Below.next ?_ (by with_reducible assumption)) | (with_reducible refine Below.drew ?_) | (with_reducible refine Below.laid ?_ _) | (with_reducible refine Below.setCell ?_ ?_ _) | (with_reducible refine size_of ?_) | (with_reducible refine Nat.le_succ_of_le ?_) | go_size))
      have hw4 : Below w.heap.size w w4 := Below.next hw3 hq4
      replace BF3 := BF3.keep hq4
      try clear BF30 BF31 BF3l
      obtain ⟨⟨BF30, BF31⟩, _⟩ := BF3.cells2
      have BF3l := BF3.lt
      go_wp2_with fail
      refine (vennsame_Error _ _ _ (HET.out.keep (by (repeat' (first | (with_reducible exact Below.refl _ _) | (with_reducible assumption) | (with_reducible refine Below.next ?_ (by with_reducible assumption)) | (with_reducible refine Below.drew ?_) | (with_reducible refine Below.laid ?_ _) | (with_reducible refine Below.setCell ?_ ?_ _) | (with_reducible refine size_of ?_) | (with_reducible refine Nat.le_succ_of_le ?_) | go_size))))).mono ?_
      rintro e w5 ⟨rfl, hb5⟩
      have hq5 : Below w4.heap.size w4 w5 := by (repeat' (first | (with_reducible exact Below.refl _ _) | (with_reducible assumption) | (with_reducible refine Below.next ?_ (by with_reducible assumption)) | (with_reducible refine Below.drew ?_) | (with_reducible refine Below.laid ?_ _) | (with_reducible refine Below.setCell ?_ ?_ _) | (with_reducible refine size_of ?_) | (with_reducible refine Nat.le_succ_of_le ?_) | go_size))
      have hw5 : Below w.heap.size w w5 := Below.next hw4 hq5
      replace BF3 := BF3.keep hq5
      try clear BF30 BF31 BF3l
      obtain ⟨⟨BF30, BF31⟩, _⟩ := BF3.cells2
      have BF3l := BF3.lt
      go_wp2_with fail
      refine (HC0.out _ (HL.out.keep (by (repeat' (first | (with_reducible exact Below.refl _ _) | (with_reducible assumption) | (with_reducible refine Below.next ?_ (by with_reducible assumption)) | (with_reducible refine Below.drew ?_) | (with_reducible refine Below.laid ?_ _) | (with_reducible refine Below.setCell ?_ ?_ _) | (with_reducible refine size_of ?_) | (with_reducible refine Nat.le_succ_of_le ?_) | go_size))))).mono ?_
      rintro e w6 ⟨rfl, hb6⟩
      have hq6 : Below w5.heap.size w5 w6 := by (repeat' (first | (with_reducible exact Below.refl _ _) | (with_reducible assumption) | (with_reducible refine Below.next ?_ (by with_reducible assumption)) | (with_reducible refine Below.drew ?_) | (with_reducible refine Below.laid ?_ _) | (with_reducible refine Below.setCell ?_ ?_ _) | (with_reducible refine size_of ?_) | (with_reducible refine Nat.le_succ_of_le ?_) | go_size))
      have hw6 : Below w.heap.size w w6 := Below.next hw5 hq6
      replace BF3 := BF3.keep hq6
      try clear BF30 BF31 BF3l
      obtain ⟨⟨BF30, BF31⟩, _⟩ := BF3.cells2
      have BF3l := BF3.lt
      go_upto_if 61 with (fail)
      have HB6 := Lib.hid BF3
      go_cut [7] (fun s7 wx => s7 = .int .i64 K0 ∧ Below w.heap.size w wx ∧ Blk wx w.heap.size 25 #[.slice A l.length cA, .slice C c.length cC])
      case first =>
        by_cases hz : EZ = 0
        · have HN := Lib.hid (show K0 = EF by rw [HQ0.out, if_pos hz])
          subst hz
          go_wp2_with fail
          refine (HFA.out _ (HA.out.keep (by (repeat' (first | (with_reducible exact Below.refl _ _) | (with_reducible assumption) | (with_reducible refine Below.next ?_ (by with_reducible assumption)) | (with_reducible refine Below.drew ?_) | (with_reducible refine Below.laid ?_ _) | (with_reducible refine Below.setCell ?_ ?_ _) | (with_reducible refine size_of ?_) | (with_reducible refine Nat.le_succ_of_le ?_) | go_size)))) (HC.out.keep (by (repeat' (first | (with_reducible exact Below.refl _ _) | (with_reducible assumption) | (with_reducible refine Below.next ?_ (by with_reducible assumption)) | (with_reducible refine Below.drew ?_) | (with_reducible refine Below.laid ?_ _) | (with_reducible refine Below.setCell ?_ ?_ _) | (with_reducible refine size_of ?_) | (with_reducible refine Nat.le_succ_of_le ?_) | go_size))))).mono ?_
          rintro e w7 ⟨rfl, hb7⟩
          go_wp2
          go_meet
          case rel => exact ⟨by rw [HN.out], by (repeat' (first | (with_reducible exact Below.refl _ _) | (with_reducible assumption) | (with_reducible refine Below.next ?_ (by with_reducible assumption)) | (with_reducible refine Below.drew ?_) | (with_reducible refine Below.laid ?_ _) | (with_reducible refine Below.setCell ?_ ?_ _) | (with_reducible refine size_of ?_) | (with_reducible refine Nat.le_succ_of_le ?_) | go_size)), HB6.out.keep hb7⟩
        · have HN := Lib.hid (show K0 = EZ by rw [HQ0.out, if_neg hz])
          have hq : (EZ == 0) = false := by simpa using hz
          clear hz
          go_wp2
          go_meet
          case rel => exact ⟨by rw [HN.out], by (repeat' (first | (with_reducible exact Below.refl _ _) | (with_reducible assumption) | (with_reducible refine Below.next ?_ (by with_reducible assumption)) | (with_reducible refine Below.drew ?_) | (with_reducible refine Below.laid ?_ _) | (with_reducible refine Below.setCell ?_ ?_ _) | (with_reducible refine size_of ?_) | (with_reducible refine Nat.le_succ_of_le ?_) | go_size)), HB6.out⟩
      case rest =>
        obtain ⟨rfl, hw7, BF7⟩ := hcut
        obtain ⟨w7, rfl⟩ : ∃ w7 : World, w7 = wc := ⟨_, rfl⟩
        have HB7 := Lib.hid BF7
        clear BF3 BF30 BF31 BF3l HB6 hw3 hw4 hw5 hw6 hq4 hq5 hq6 hb4 hb5 hb6
        by_cases hz : K0 = 0
        · have HAS := Lib.hid (HAK.out hz)
          subst hz
          go_upto_region 18 with (fail)
          go_wp2
          go_loopw [14, 15, 16] (fun y n i wr => ∃ k : Nat, k ≤ 7 ∧ i = .int .i64 k ∧ y = .int .i64 (YT k : Nat) ∧ n = .int .i64 (NT k : Nat) ∧ Below w.heap.size w wr ∧ Blk wr w.heap.size 25 #[.slice A l.length cA, .slice C c.length cC]) (fun _ _ i _ => 7 - (intOf i).toNat)
          case atStart => exact ⟨0, by omega, rfl, by rw [HZ.out.1]; rfl, by rw [HZ.out.2]; rfl, hw7, BF7⟩
          case round =>
            clear hw7 BF7 HB7
            obtain ⟨k, hk, rfl, rfl, rfl, hb, hB⟩ := hrel
            obtain ⟨wo, rfl⟩ : ∃ wo : World, wo = wr := ⟨_, rfl⟩
            obtain ⟨⟨f0, f1⟩, _⟩ := hB.cells2
            have hlB := hB.lt
            by_cases hlt : k < 7
            · have hle := HTO.out (k + 1) (by omega)
              have HY1 := Lib.hid (HSY.out k)
              have HN1 := Lib.hid (HSN.out k)
              rw [HSY.out, HSN.out] at hle
              have HW := Lib.hid (HAS.out k hlt)
              generalize Venn.yesOf ls ⟨l, c⟩ (Venn.allC (k : Int)) = y at HW HY1 hle
              generalize Venn.noOf ls ⟨l, c⟩ (Venn.allC (k : Int)) = n at HW HN1 hle
              generalize YT k = Yk at HY1 hle ⊢
              generalize NT k = Nk at HN1 hle ⊢
              have hk6 : (k : Int) ≤ 6 := by omega
              have hwy : IntKind.i64.wrap ((Yk : Int) + (y : Int)) = (Yk : Int) + (y : Int) := IntWalk.i64_in _ (by omega)
              have hwn : IntKind.i64.wrap ((Nk : Int) + (n : Int)) = (Nk : Int) + (n : Int) := IntWalk.i64_in _ (by omega)
              go_wp2_with fail
              refine (HW.out _ (HL.out.keep (by (repeat' (first | (with_reducible exact Below.refl _ _) | (with_reducible assumption) | (with_reducible refine Below.next ?_ (by with_reducible assumption)) | (with_reducible refine Below.drew ?_) | (with_reducible refine Below.laid ?_ _) | (with_reducible refine Below.setCell ?_ ?_ _) | (with_reducible refine size_of ?_) | (with_reducible refine Nat.le_succ_of_le ?_) | go_size)))) (HA.out.keep (by (repeat' (first | (with_reducible exact Below.refl _ _) | (with_reducible assumption) | (with_reducible refine Below.next ?_ (by with_reducible assumption)) | (with_reducible refine Below.drew ?_) | (with_reducible refine Below.laid ?_ _) | (with_reducible refine Below.setCell ?_ ?_ _) | (with_reducible refine size_of ?_) | (with_reducible refine Nat.le_succ_of_le ?_) | go_size)))) (HC.out.keep (by (repeat' (first | (with_reducible exact Below.refl _ _) | (with_reducible assumption) | (with_reducible refine Below.next ?_ (by with_reducible assumption)) | (with_reducible refine Below.drew ?_) | (with_reducible refine Below.laid ?_ _) | (with_reducible refine Below.setCell ?_ ?_ _) | (with_reducible refine size_of ?_) | (with_reducible refine Nat.le_succ_of_le ?_) | go_size))))).mono ?_
              rintro e w8 ⟨rfl, hb8⟩
              go_wp2
              go_roundw
              case rel => exact ⟨k + 1, by omega, by go_num, by rw [HY1.out]; simp, by rw [HN1.out]; simp, by (repeat' (first | (with_reducible exact Below.refl _ _) | (with_reducible assumption) | (with_reducible refine Below.next ?_ (by with_reducible assumption)) | (with_reducible refine Below.drew ?_) | (with_reducible refine Below.laid ?_ _) | (with_reducible refine Below.setCell ?_ ?_ _) | (with_reducible refine size_of ?_) | (with_reducible refine Nat.le_succ_of_le ?_) | go_size)), hB.keep hb8⟩
              case measure => simp [intOf]; omega
            · obtain rfl : k = 7 := by omega
              have hle := HTO.out 7 (by omega)
              generalize YT 7 = Yk at HE0 HV0 hle ⊢
              generalize NT 7 = Nk at HE0 HV0 hle ⊢
              have hwr : IntKind.i64.wrap ((Yk : Int) + (Nk : Int)) = (Yk : Int) + (Nk : Int) := IntWalk.i64_in _ (by omega)
              by_cases hs : Yk + Nk = 0
              · have HX := Lib.hid (show X0 = 6 by rw [HE0.out]; simp [hs])
                have HV := Lib.hid (show V0 = 0 by rw [HV0.out, HX.out, if_neg (by decide)])
                have e1 : ((Yk : Int) + (Nk : Int) == 0) = true := beq_iff_eq.2 (by omega)
                rw [HX.out, HV.out] at HAV
                clear hs
                go_wp2_with fail
                refine (HAL.out _ (HL.out.keep (by (repeat' (first | (with_reducible exact Below.refl _ _) | (with_reducible assumption) | (with_reducible refine Below.next ?_ (by with_reducible assumption)) | (with_reducible refine Below.drew ?_) | (with_reducible refine Below.laid ?_ _) | (with_reducible refine Below.setCell ?_ ?_ _) | (with_reducible refine size_of ?_) | (with_reducible refine Nat.le_succ_of_le ?_) | go_size)))) (HA.out.keep (by (repeat' (first | (with_reducible exact Below.refl _ _) | (with_reducible assumption) | (with_reducible refine Below.next ?_ (by with_reducible assumption)) | (with_reducible refine Below.drew ?_) | (with_reducible refine Below.laid ?_ _) | (with_reducible refine Below.setCell ?_ ?_ _) | (with_reducible refine size_of ?_) | (with_reducible refine Nat.le_succ_of_le ?_) | go_size)))) (HC.out.keep (by (repeat' (first | (with_reducible exact Below.refl _ _) | (with_reducible assumption) | (with_reducible refine Below.next ?_ (by with_reducible assumption)) | (with_reducible refine Below.drew ?_) | (with_reducible refine Below.laid ?_ _) | (with_reducible refine Below.setCell ?_ ?_ _) | (with_reducible refine size_of ?_) | (with_reducible refine Nat.le_succ_of_le ?_) | go_size)))) (HK.out.keep (by (repeat' (first | (with_reducible exact Below.refl _ _) | (with_reducible assumption) | (with_reducible refine Below.next ?_ (by with_reducible assumption)) | (with_reducible refine Below.drew ?_) | (with_reducible refine Below.laid ?_ _) | (with_reducible refine Below.setCell ?_ ?_ _) | (with_reducible refine size_of ?_) | (with_reducible refine Nat.le_succ_of_le ?_) | go_size))))).mono ?_
                rintro e w9 ⟨rfl, hb9⟩
                rw [HAV.out]
                go_wp2_with fail
                refine (vennsame_Error _ _ _ (HET.out.keep (by (repeat' (first | (with_reducible exact Below.refl _ _) | (with_reducible assumption) | (with_reducible refine Below.next ?_ (by with_reducible assumption)) | (with_reducible refine Below.drew ?_) | (with_reducible refine Below.laid ?_ _) | (with_reducible refine Below.setCell ?_ ?_ _) | (with_reducible refine size_of ?_) | (with_reducible refine Nat.le_succ_of_le ?_) | go_size))))).mono ?_
                rintro e w10 ⟨rfl, hb10⟩
                go_wp2
                go_ret
                exact ⟨by simp, by (repeat' (first | (with_reducible exact Below.refl _ _) | (with_reducible assumption) | (with_reducible refine Below.next ?_ (by with_reducible assumption)) | (with_reducible refine Below.drew ?_) | (with_reducible refine Below.laid ?_ _) | (with_reducible refine Below.setCell ?_ ?_ _) | (with_reducible refine size_of ?_) | (with_reducible refine Nat.le_succ_of_le ?_) | go_size))⟩
              · have HX := Lib.hid (show X0 = 0 by rw [HE0.out]; simp only [if_true, if_neg hs])
                have HV := Lib.hid (show V0 = Venn.answer Yk Nk by rw [HV0.out, HX.out, if_pos rfl])
                have e1 : ((Yk : Int) + (Nk : Int) == 0) = false := beq_eq_false_iff_ne.2 (by omega)
                rw [HX.out, HV.out] at HAV
                have HAN := Lib.hid (fun W => ref_Answer (Yk : Int) (Nk : Int) W)
                clear hs
                generalize Venn.answer (Yk : Int) (Nk : Int) = AN at HAV HAN
                go_wp2_with (go_at_call 34; refine (HAN.out _).mono ?_; rintro e w' ⟨rfl, rfl⟩)
                refine (HAL.out _ (HL.out.keep (by (repeat' (first | (with_reducible exact Below.refl _ _) | (with_reducible assumption) | (with_reducible refine Below.next ?_ (by with_reducible assumption)) | (with_reducible refine Below.drew ?_) | (with_reducible refine Below.laid ?_ _) | (with_reducible refine Below.setCell ?_ ?_ _) | (with_reducible refine size_of ?_) | (with_reducible refine Nat.le_succ_of_le ?_) | go_size)))) (HA.out.keep (by (repeat' (first | (with_reducible exact Below.refl _ _) | (with_reducible assumption) | (with_reducible refine Below.next ?_ (by with_reducible assumption)) | (with_reducible refine Below.drew ?_) | (with_reducible refine Below.laid ?_ _) | (with_reducible refine Below.setCell ?_ ?_ _) | (with_reducible refine size_of ?_) | (with_reducible refine Nat.le_succ_of_le ?_) | go_size)))) (HC.out.keep (by (repeat' (first | (with_reducible exact Below.refl _ _) | (with_reducible assumption) | (with_reducible refine Below.next ?_ (by with_reducible assumption)) | (with_reducible refine Below.drew ?_) | (with_reducible refine Below.laid ?_ _) | (with_reducible refine Below.setCell ?_ ?_ _) | (with_reducible refine size_of ?_) | (with_reducible refine Nat.le_succ_of_le ?_) | go_size)))) (HK.out.keep (by (repeat' (first | (with_reducible exact Below.refl _ _) | (with_reducible assumption) | (with_reducible refine Below.next ?_ (by with_reducible assumption)) | (with_reducible refine Below.drew ?_) | (with_reducible refine Below.laid ?_ _) | (with_reducible refine Below.setCell ?_ ?_ _) | (with_reducible refine size_of ?_) | (with_reducible refine Nat.le_succ_of_le ?_) | go_size))))).mono ?_
                rintro e w9 ⟨rfl, hb9⟩
                rw [HAV.out]
                go_wp2_with fail
                refine (vennsame_Error _ _ _ (HET.out.keep (by (repeat' (first | (with_reducible exact Below.refl _ _) | (with_reducible assumption) | (with_reducible refine Below.next ?_ (by with_reducible assumption)) | (with_reducible refine Below.drew ?_) | (with_reducible refine Below.laid ?_ _) | (with_reducible refine Below.setCell ?_ ?_ _) | (with_reducible refine size_of ?_) | (with_reducible refine Nat.le_succ_of_le ?_) | go_size))))).mono ?_
                rintro e w10 ⟨rfl, hb10⟩
                go_wp2
                go_ret
                exact ⟨by simp, by (repeat' (first | (with_reducible exact Below.refl _ _) | (with_reducible assumption) | (with_reducible refine Below.next ?_ (by with_reducible assumption)) | (with_reducible refine Below.drew ?_) | (with_reducible refine Below.laid ?_ _) | (with_reducible refine Below.setCell ?_ ?_ _) | (with_reducible refine size_of ?_) | (with_reducible refine Nat.le_succ_of_le ?_) | go_size))⟩
        · have HX := Lib.hid (show X0 = K0 by rw [HE0.out, if_neg hz])
          have HV := Lib.hid (show V0 = 0 by rw [HV0.out, HX.out, if_neg hz])
          have hq : (K0 == 0) = false := by simpa using hz
          rw [HX.out, HV.out] at HAV
          clear hz
          obtain ⟨⟨f0, f1⟩, _⟩ := BF7.cells2
          have hlB := BF7.lt
          go_upto_region 18 with (fail)
          go_wp2
          refine wp_loop_rounds 1 ?_
          rw [rounds_succ]
          go_wp2_with fail
          refine (HAL.out _ (HL.out.keep (by (repeat' (first | (with_reducible exact Below.refl _ _) | (with_reducible assumption) | (with_reducible refine Below.next ?_ (by with_reducible assumption)) | (with_reducible refine Below.drew ?_) | (with_reducible refine Below.laid ?_ _) | (with_reducible refine Below.setCell ?_ ?_ _) | (with_reducible refine size_of ?_) | (with_reducible refine Nat.le_succ_of_le ?_) | go_size)))) (HA.out.keep (by (repeat' (first | (with_reducible exact Below.refl _ _) | (with_reducible assumption) | (with_reducible refine Below.next ?_ (by with_reducible assumption)) | (with_reducible refine Below.drew ?_) | (with_reducible refine Below.laid ?_ _) | (with_reducible refine Below.setCell ?_ ?_ _) | (with_reducible refine size_of ?_) | (with_reducible refine Nat.le_succ_of_le ?_) | go_size)))) (HC.out.keep (by (repeat' (first | (with_reducible exact Below.refl _ _) | (with_reducible assumption) | (with_reducible refine Below.next ?_ (by with_reducible assumption)) | (with_reducible refine Below.drew ?_) | (with_reducible refine Below.laid ?_ _) | (with_reducible refine Below.setCell ?_ ?_ _) | (with_reducible refine size_of ?_) | (with_reducible refine Nat.le_succ_of_le ?_) | go_size)))) (HK.out.keep (by (repeat' (first | (with_reducible exact Below.refl _ _) | (with_reducible assumption) | (with_reducible refine Below.next ?_ (by with_reducible assumption)) | (with_reducible refine Below.drew ?_) | (with_reducible refine Below.laid ?_ _) | (with_reducible refine Below.setCell ?_ ?_ _) | (with_reducible refine size_of ?_) | (with_reducible refine Nat.le_succ_of_le ?_) | go_size))))).mono ?_
          rintro e w9 ⟨rfl, hb9⟩
          rw [HAV.out]
          go_wp2_with fail
          refine (vennsame_Error _ _ _ (HET.out.keep (by (repeat' (first | (with_reducible exact Below.refl _ _) | (with_reducible assumption) | (with_reducible refine Below.next ?_ (by with_reducible assumption)) | (with_reducible refine Below.drew ?_) | (with_reducible refine Below.laid ?_ _) | (with_reducible refine Below.setCell ?_ ?_ _) | (with_reducible refine size_of ?_) | (with_reducible refine Nat.le_succ_of_le ?_) | go_size))))).mono ?_
          rintro e w10 ⟨rfl, hb10⟩
          go_wp2
          go_ret
          exact ⟨by simp, by (repeat' (first | (with_reducible exact Below.refl _ _) | (with_reducible assumption) | (with_reducible refine Below.next ?_ (by with_reducible assumption)) | (with_reducible refine Below.drew ?_) | (with_reducible refine Below.laid ?_ _) | (with_reducible refine Below.setCell ?_ ?_ _) | (with_reducible refine size_of ?_) | (with_reducible refine Nat.le_succ_of_le ?_) | go_size))⟩
end Go.Proofs.YtcecbpbpknphjaaDoor
