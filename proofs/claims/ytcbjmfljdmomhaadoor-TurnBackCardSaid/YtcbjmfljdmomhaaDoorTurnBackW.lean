/-
  THE WALK of vennlaw4.TurnBack.
-/
import Derived.Test.YtcbjmfljdmomhaaDoorTurnThings
import Derived.Test.YtcbjmfljdmomhaaDoorTurnNames
import Derived.Test.YtcbjmfljdmomhaaDoorVennOnce
import Derived.Test.YtcbjmfljdmomhaaDoorSameForm
import Derived.Test.YtcbjmfljdmomhaaDoorFields
import Derived.Test.YtcbjmfljdmomhaaDoorEql
import Derived.Test.YtcbjmfljdmomhaaDoorLawF
import Derived.Deep.RegionHeld3
import Derived.Deep.DeepCutAuto
import Derived.Deep.CutBlock
namespace Go.Proofs.YtcbjmfljdmomhaaDoor
open Go.RowKit

theorem yielded_undef {ops : Array Oper} {tmps : Array Value} {j : Nat} (h : ((ops[j]?).bind (·.dst)).bind (tmps[·]?) = some undef) : yielded ops tmps j = none := by
  unfold yielded
  rw [h]
  rfl
theorem held_back {W : World} {f g : Nat} {tF tG : TypeId} {va vc ua uc : Value} (hF : Blk W f tF #[va, vc]) (hG : Blk W g tG #[ua, uc]) :
    W.cell? ⟨f, 0, none⟩ = some va ∧ W.cell? ⟨f, 1, none⟩ = some vc ∧ W.cell? ⟨g, 0, none⟩ = some ua ∧ W.cell? ⟨g, 1, none⟩ = some uc := ⟨hF.cell 0, hF.cell 1, hG.cell 0, hG.cell 1⟩
theorem fieldsV_eight (w : Venn.World) : ∃ a0 a1 a2 a3 a4 a5 a6 a7, fieldsV w = [a0, a1, a2, a3, a4, a5, a6, a7] := by
  by_cases hw : Venn.worldChk w = 0
  · obtain ⟨a0, a1, a2, a3, a4, a5, a6, a7, hx, _⟩ := Venn.of_allC (Venn.worldChk_iff.1 hw).1 (Venn.fieldsOf_mem hw)
    exact ⟨a0, a1, a2, a3, a4, a5, a6, a7, by rw [fieldsV, if_pos hw, hx]⟩
  · exact ⟨0, 0, 0, 0, 0, 0, 0, 0, by rw [fieldsV, if_neg hw]⟩

attribute [local go_sem] undef
set_option maxHeartbeats 8000000 in
set_option maxRecDepth 100000 in
theorem turnBack_walk (sa sc : Value) (l : List Venn.Atom) (c : List Int) (th a b d i k : Int) (w : World) (ha : IsAtoms w sa l) (hc : IsInts w sc c) (hk : KindsOk w) :
    Calls Tryd.prog 4 #[.agg #[sa, sc], .agg #[.int .i64 th, .int .i64 a, .int .i64 b, .int .i64 d], .int .i64 i, .int .i64 k] w (Keeps (.bool true) w) := by
  obtain ⟨A, cA, rfl⟩ := ha.slice
  obtain ⟨C, cC, rfl⟩ := hc.slice
  have HA := Lib.hid ha
  have HC := Lib.hid hc
  have HK := Lib.hid hk
  obtain ⟨a0, a1, a2, a3, a4, a5, a6, a7, h8⟩ := fieldsV_eight ⟨th, a, b, d⟩
  have HFV := Lib.hid h8
  have HSB := Lib.hid (fun (hw : Venn.worldChk ⟨th, a, b, d⟩ = 0) (I J : Nat) (hi : (I : Int) < th) (hj : (J : Int) < th) => Venn.swap_back hw hi hj)
  clear ha hc hk h8
  obtain ⟨N1, hN1⟩ : ∃ N1, N1 = Venn.namesV ⟨l, c⟩ 1 0 2 := ⟨_, rfl⟩
  obtain ⟨N2, hN2⟩ : ∃ N2, N2 = Venn.namesV N1 1 0 2 := ⟨_, rfl⟩
  obtain ⟨E2, hE2⟩ : ∃ E2, E2 = Venn.namesErr N1 1 0 2 := ⟨_, rfl⟩
  have HN1 := Lib.hid hN1
  have HN2 := Lib.hid hN2
  have HE2 := Lib.hid hE2
  have HE1 := Lib.hid (Venn.names_102 ⟨l, c⟩)
  have HOK := Lib.hid (fun (h : Venn.formChk ⟨l, c⟩ = 0) => (by
    have e1 : Venn.namesErr ⟨l, c⟩ 1 0 2 = 0 := by rw [Venn.names_102, h]
    have e2 : N1 = Venn.renF 1 0 2 ⟨l, c⟩ := by rw [hN1, Venn.namesV, if_pos e1]
    have e3 : E2 = 0 := by rw [hE2, Venn.names_102, e2, Venn.formChk_ren (Venn.once_in3 Venn.once_102), h]
    exact ⟨e3, by rw [hN2, Venn.namesV, if_pos (by rw [← hE2, e3]), e2, Venn.renF_swap]⟩ : E2 = 0 ∧ N2 = ⟨l, c⟩))
  have HNO := Lib.hid (fun (h : Venn.formChk ⟨l, c⟩ ≠ 0) => (by
    have e1 : Venn.namesErr ⟨l, c⟩ 1 0 2 ≠ 0 := by rw [Venn.names_102]; exact h
    have e2 : N1 = ⟨[], []⟩ := by rw [hN1, Venn.namesV, if_neg e1]
    rw [hE2, Venn.names_102, e2]; rfl : E2 = 5))
  clear hN1 hN2 hE2
  obtain ⟨l1, c1⟩ := N1
  obtain ⟨l2, c2⟩ := N2
  go_enter Tryd.func4, Tryd.ntmps4
  go_upto_region 2 with (fail)
  have BF := ((Blk.new w 31 #[.slice A l.length cA, .slice C c.length cC]).alloc (.cells #[.int .i64 th, .int .i64 a, .int .i64 b, .int .i64 d] 25)).alloc (.cells #[.int .i64 1, .int .i64 0, .int .i64 2] 23)
  have BW := (Blk.newAt (w := w.alloc (.cells #[.slice A l.length cA, .slice C c.length cC] 31)) (g := w.heap.size + 1) (by simp) 25 #[.int .i64 th, .int .i64 a, .int .i64 b, .int .i64 d]).alloc (.cells #[.int .i64 1, .int .i64 0, .int .i64 2] 23)
  have BP := Blk.newAt (w := (w.alloc (.cells #[.slice A l.length cA, .slice C c.length cC] 31)).alloc (.cells #[.int .i64 th, .int .i64 a, .int .i64 b, .int .i64 d] 25)) (g := w.heap.size + 1 + 1) (by simp) 23 #[.int .i64 1, .int .i64 0, .int .i64 2]
  have hw1 : Below w.heap.size w (((w.alloc (.cells #[.slice A l.length cA, .slice C c.length cC] 31)).alloc (.cells #[.int .i64 th, .int .i64 a, .int .i64 b, .int .i64 d] 25)).alloc (.cells #[.int .i64 1, .int .i64 0, .int .i64 2] 23)) := (by (repeat' (first | (with_reducible exact Below.refl _ _) | (with_reducible assumption) | (with_reducible refine Below.next ?_ (by with_reducible assumption)) | (with_reducible refine Below.drew ?_) | (with_reducible refine Below.laid ?_ _) | (with_reducible refine Below.setCell ?_ ?_ _) | (with_reducible refine size_of ?_) | (with_reducible refine Nat.le_succ_of_le ?_) | go_size)))
  revert BF BW BP hw1
  generalize World.alloc _ _ = w1
  intro BF BW BP hw1
  obtain ⟨⟨b0, b1⟩, _⟩ := BF.cells2
  have p0 := BP.cell 0
  have p1 := BP.cell 1
  have p2 := BP.cell 2
  go_wp2_with fail
  refine (turn_Names _ _ l c 1 0 2 _ (HA.out.keep (by (repeat' (first | (with_reducible exact Below.refl _ _) | (with_reducible assumption) | (with_reducible refine Below.next ?_ (by with_reducible assumption)) | (with_reducible refine Below.drew ?_) | (with_reducible refine Below.laid ?_ _) | (with_reducible refine Below.setCell ?_ ?_ _) | (with_reducible refine size_of ?_) | (with_reducible refine Nat.le_succ_of_le ?_) | go_size)))) (HC.out.keep (by (repeat' (first | (with_reducible exact Below.refl _ _) | (with_reducible assumption) | (with_reducible refine Below.next ?_ (by with_reducible assumption)) | (with_reducible refine Below.drew ?_) | (with_reducible refine Below.laid ?_ _) | (with_reducible refine Below.setCell ?_ ?_ _) | (with_reducible refine size_of ?_) | (with_reducible refine Nat.le_succ_of_le ?_) | go_size)))) (HK.out.keep (by (repeat' (first | (with_reducible exact Below.refl _ _) | (with_reducible assumption) | (with_reducible refine Below.next ?_ (by with_reducible assumption)) | (with_reducible refine Below.drew ?_) | (with_reducible refine Below.laid ?_ _) | (with_reducible refine Below.setCell ?_ ?_ _) | (with_reducible refine size_of ?_) | (with_reducible refine Nat.le_succ_of_le ?_) | go_size))))).mono ?_
  unfold NamesPost
  rintro e w2 ⟨A2, kA2, C2, kC2, rfl, hb2, hA2, hC2⟩
  rw [← HN1.out] at hA2 hC2 ⊢
  rw [HE1.out]
  simp only at hA2 hC2 ⊢
  have hw2 := Below.next hw1 hb2
  have BG := Blk.new w2 31 #[.slice A2 l1.length kA2, .slice C2 c1.length kC2]
  replace BF := BF.keep hb2
  replace BW := BW.keep hb2
  replace BP := BP.keep hb2
  clear b0 b1 p0 p1 p2
  obtain ⟨⟨g0, g1⟩, _⟩ := BG.cells2
  have p0 := BP.cell 0
  have p1 := BP.cell 1
  have p2 := BP.cell 2
  have pl := BP.lt
  go_wp2_with fail
  refine (turn_Names _ _ l1 c1 1 0 2 _ (hA2.keep (by (repeat' (first | (with_reducible exact Below.refl _ _) | (with_reducible assumption) | (with_reducible refine Below.next ?_ (by with_reducible assumption)) | (with_reducible refine Below.drew ?_) | (with_reducible refine Below.laid ?_ _) | (with_reducible refine Below.setCell ?_ ?_ _) | (with_reducible refine size_of ?_) | (with_reducible refine Nat.le_succ_of_le ?_) | go_size)))) (hC2.keep (by (repeat' (first | (with_reducible exact Below.refl _ _) | (with_reducible assumption) | (with_reducible refine Below.next ?_ (by with_reducible assumption)) | (with_reducible refine Below.drew ?_) | (with_reducible refine Below.laid ?_ _) | (with_reducible refine Below.setCell ?_ ?_ _) | (with_reducible refine size_of ?_) | (with_reducible refine Nat.le_succ_of_le ?_) | go_size)))) (HK.out.keep (by (repeat' (first | (with_reducible exact Below.refl _ _) | (with_reducible assumption) | (with_reducible refine Below.next ?_ (by with_reducible assumption)) | (with_reducible refine Below.drew ?_) | (with_reducible refine Below.laid ?_ _) | (with_reducible refine Below.setCell ?_ ?_ _) | (with_reducible refine size_of ?_) | (with_reducible refine Nat.le_succ_of_le ?_) | go_size))))).mono ?_
  unfold NamesPost
  rintro e w3 ⟨A3, kA3, C3, kC3, rfl, hb3, hA3, hC3⟩
  rw [← HN2.out] at hA3 hC3 ⊢
  rw [← HE2.out]
  simp only at hA3 hC3 ⊢
  have hq3 : Below w2.heap.size w2 w3 := (by (repeat' (first | (with_reducible exact Below.refl _ _) | (with_reducible assumption) | (with_reducible refine Below.next ?_ (by with_reducible assumption)) | (with_reducible refine Below.drew ?_) | (with_reducible refine Below.laid ?_ _) | (with_reducible refine Below.setCell ?_ ?_ _) | (with_reducible refine size_of ?_) | (with_reducible refine Nat.le_succ_of_le ?_) | go_size)))
  have hw3 := Below.next hw2 hq3
  replace BF := BF.keep hq3
  replace BW := BW.keep hq3
  have HA3 := Lib.hid hA3
  have HC3 := Lib.hid hC3
  clear g0 g1 p0 p1 p2 pl BG BP hb2 hb3 hq3 hw1 hw2 hA2 hC2 hA3 hC3
  go_upto_region 4 with (fail)
  have BH := Blk.new w3 31 #[.slice A3 l2.length kA3, .slice C3 c2.length kC3]
  replace BF := BF.alloc (.cells #[.slice A3 l2.length kA3, .slice C3 c2.length kC3] 31)
  replace BW := BW.alloc (.cells #[.slice A3 l2.length kA3, .slice C3 c2.length kC3] 31)
  have HB := Lib.hid (Below.laid (Below.refl _ w3) (.cells #[.slice A3 l2.length kA3, .slice C3 c2.length kC3] 31))
  have hw4 := Below.laid hw3 (.cells #[.slice A3 l2.length kA3, .slice C3 c2.length kC3] 31)
  revert BH BF BW HB hw4
  generalize World.alloc _ _ = w4
  intro BH BF BW HB hw4
  obtain ⟨H, hH⟩ : ∃ H, H = w3.heap.size := ⟨_, rfl⟩
  rw [← hH] at BH ⊢
  replace HA3 := Lib.hid (HA3.out.keep HB.out)
  replace HC3 := Lib.hid (HC3.out.keep HB.out)
  clear HB hw3 hH
  go_cut [11, 13, 53] (fun _ _ s wx => s = .bool false ∧ Below w.heap.size w wx ∧ Blk wx (w.heap.size + 1) 25 #[.int .i64 th, .int .i64 a, .int .i64 b, .int .i64 d])
  case first =>
    clear HFV HSB
    by_cases h1 : Venn.formChk ⟨l, c⟩ = 0
    · obtain ⟨e2, e3⟩ := HOK.out h1
      have HX := Lib.hid (errV_zero h1)
      rw [e2] at HE2 ⊢
      simp only [Venn.Form.mk.injEq] at e3
      obtain ⟨rfl, rfl⟩ := e3
      rw [HX.out, errV_zero rfl]
      clear h1 e2 HOK HE1 HE2 HN1 HN2 HNO
      have BFd := BF.drew
      have BHd := BH.drew
      go_region_held3 (fun w' => w'.cell? ⟨w.heap.size, 0, none⟩ = some (.slice A l2.length cA) ∧ w'.cell? ⟨w.heap.size, 1, none⟩ = some (.slice C c2.length cC) ∧ w'.cell? ⟨H, 0, none⟩ = some (.slice A3 l2.length kA3) ∧ w'.cell? ⟨H, 1, none⟩ = some (.slice C3 c2.length kC3))
        (first | with_reducible exact held_back (W := w4) BF BH | with_reducible exact held_back (W := w4.drew) BFd BHd | with_reducible exact held_back (W := w6) BF6 BH6 | with_reducible exact held_back (W := w5) BF5 BH5)
        (first
        | (go_at_call 14; refine (form_Check _ _ l2 c2 _ (HA.out.keep (by (repeat' (first | (with_reducible exact Below.refl _ _) | (with_reducible assumption) | (with_reducible refine Below.next ?_ (by with_reducible assumption)) | (with_reducible refine Below.drew ?_) | (with_reducible refine Below.laid ?_ _) | (with_reducible refine Below.setCell ?_ ?_ _) | (with_reducible refine size_of ?_) | (with_reducible refine Nat.le_succ_of_le ?_) | go_size)))) (HC.out.keep (by (repeat' (first | (with_reducible exact Below.refl _ _) | (with_reducible assumption) | (with_reducible refine Below.next ?_ (by with_reducible assumption)) | (with_reducible refine Below.drew ?_) | (with_reducible refine Below.laid ?_ _) | (with_reducible refine Below.setCell ?_ ?_ _) | (with_reducible refine size_of ?_) | (with_reducible refine Nat.le_succ_of_le ?_) | go_size)))) (HK.out.keep (by (repeat' (first | (with_reducible exact Below.refl _ _) | (with_reducible assumption) | (with_reducible refine Below.next ?_ (by with_reducible assumption)) | (with_reducible refine Below.drew ?_) | (with_reducible refine Below.laid ?_ _) | (with_reducible refine Below.setCell ?_ ?_ _) | (with_reducible refine size_of ?_) | (with_reducible refine Nat.le_succ_of_le ?_) | go_size))))).mono ?_; rintro e w5 ⟨rfl, hb5⟩; rw [HX.out]
           first
           | (have BF5 := BF.keep hb5; have BH5 := BH.keep hb5; have BW5 := BW.keep hb5; have hw5 := Below.next hw4 hb5; have hq5 := Below.next (Below.refl _ w4) hb5)
           | (have BF5 := BF.drew.keep hb5; have BH5 := BH.drew.keep hb5; have BW5 := BW.drew.keep hb5; have hw5 := Below.next (Below.drew hw4) hb5; have hq5 := Below.next (Below.drew (Below.refl _ w4)) hb5))
        | (go_at_call 15; refine (same_Form _ _ _ _ l2 c2 _ (HA3.out.keep (by (repeat' (first | (with_reducible exact Below.refl _ _) | (with_reducible assumption) | (with_reducible refine Below.next ?_ (by with_reducible assumption)) | (with_reducible refine Below.drew ?_) | (with_reducible refine Below.laid ?_ _) | (with_reducible refine Below.setCell ?_ ?_ _) | (with_reducible refine size_of ?_) | (with_reducible refine Nat.le_succ_of_le ?_) | go_size)))) (HC3.out.keep (by (repeat' (first | (with_reducible exact Below.refl _ _) | (with_reducible assumption) | (with_reducible refine Below.next ?_ (by with_reducible assumption)) | (with_reducible refine Below.drew ?_) | (with_reducible refine Below.laid ?_ _) | (with_reducible refine Below.setCell ?_ ?_ _) | (with_reducible refine size_of ?_) | (with_reducible refine Nat.le_succ_of_le ?_) | go_size)))) (HA.out.keep (by (repeat' (first | (with_reducible exact Below.refl _ _) | (with_reducible assumption) | (with_reducible refine Below.next ?_ (by with_reducible assumption)) | (with_reducible refine Below.drew ?_) | (with_reducible refine Below.laid ?_ _) | (with_reducible refine Below.setCell ?_ ?_ _) | (with_reducible refine size_of ?_) | (with_reducible refine Nat.le_succ_of_le ?_) | go_size)))) (HC.out.keep (by (repeat' (first | (with_reducible exact Below.refl _ _) | (with_reducible assumption) | (with_reducible refine Below.next ?_ (by with_reducible assumption)) | (with_reducible refine Below.drew ?_) | (with_reducible refine Below.laid ?_ _) | (with_reducible refine Below.setCell ?_ ?_ _) | (with_reducible refine size_of ?_) | (with_reducible refine Nat.le_succ_of_le ?_) | go_size))))).mono ?_; rintro e w6 ⟨rfl, hb6⟩
           first
           | (have BF6 := BF5.keep hb6; have BH6 := BH5.keep hb6; have BW6 := BW5.keep hb6; have hw6 := Below.next hw5 hb6)))
      all_goals
        go_wp2
        go_meet
        case rel => exact ⟨rfl, hw6, BW6⟩
    · have HX := Lib.hid (errV_ne h1)
      have e5 := HNO.out h1
      rw [HX.out, e5, errV_ne (e := 5) (by decide)]
      clear h1 e5 HOK HE1 HN1 HN2 HE2
      have BFd := BF.drew
      have BHd := BH.drew
      obtain ⟨⟨b0, b1⟩, _⟩ := BF.cells2
      obtain ⟨⟨h0, h1⟩, _⟩ := BH.cells2
      first
      | go_region_law (go_simp; go_at_call 14; refine (form_Check _ _ l c _ (HA.out.keep (by (repeat' (first | (with_reducible exact Below.refl _ _) | (with_reducible assumption) | (with_reducible refine Below.next ?_ (by with_reducible assumption)) | (with_reducible refine Below.drew ?_) | (with_reducible refine Below.laid ?_ _) | (with_reducible refine Below.setCell ?_ ?_ _) | (with_reducible refine size_of ?_) | (with_reducible refine Nat.le_succ_of_le ?_) | go_size)))) (HC.out.keep (by (repeat' (first | (with_reducible exact Below.refl _ _) | (with_reducible assumption) | (with_reducible refine Below.next ?_ (by with_reducible assumption)) | (with_reducible refine Below.drew ?_) | (with_reducible refine Below.laid ?_ _) | (with_reducible refine Below.setCell ?_ ?_ _) | (with_reducible refine size_of ?_) | (with_reducible refine Nat.le_succ_of_le ?_) | go_size)))) (HK.out.keep (by (repeat' (first | (with_reducible exact Below.refl _ _) | (with_reducible assumption) | (with_reducible refine Below.next ?_ (by with_reducible assumption)) | (with_reducible refine Below.drew ?_) | (with_reducible refine Below.laid ?_ _) | (with_reducible refine Below.setCell ?_ ?_ _) | (with_reducible refine size_of ?_) | (with_reducible refine Nat.le_succ_of_le ?_) | go_size))))).mono ?_; rintro e w5 ⟨rfl, hb5⟩; rw [HX.out]; have BF5 := BF.drew.keep hb5; have BH5 := BH.drew.keep hb5; have BW5 := BW.drew.keep hb5; have hw5 := Below.next (Below.drew hw4) hb5; obtain ⟨⟨f0, f1⟩, _⟩ := BF5.cells2; obtain ⟨⟨g0, g1⟩, _⟩ := BH5.cells2)
      | fail
      all_goals
        go_wp2
        go_meet
        case rel => exact ⟨rfl, hw5, BW5⟩
  case rest =>
  obtain ⟨rfl, hw5, BW⟩ := hcut
  obtain ⟨w5, rfl⟩ : ∃ w5 : World, w5 = wc := ⟨_, rfl⟩
  clear HA HC HK HN1 HN2 HE1 HE2 HOK HNO HA3 HC3 BF BH hw4
  obtain ⟨v0, v1, v2, v3⟩ := BW.cells4
  have vl := BW.lt
  go_wp2_with fail
  refine (fields_Of _ _ _ _ _).mono ?_
  rintro e w6 ⟨rfl, hb6⟩
  rw [HFV.out]
  simp only [cells, List.map]
  have hw6 := Below.next hw5 hb6
  replace BW := BW.keep hb6
  clear v0 v1 v2 v3 vl hb6 hw5
  obtain ⟨v0, v1, v2, v3⟩ := BW.cells4
  have vl := BW.lt
  by_cases hw : ¬ Venn.worldChk ⟨th, a, b, d⟩ = 0
  · rw [errV_ne hw]
    generalize Venn.worldChk ⟨th, a, b, d⟩ = E
    clear hw
    go_wp2
    go_ret
    exact ⟨rfl, (by (repeat' (first | (with_reducible exact Below.refl _ _) | (with_reducible assumption) | (with_reducible refine Below.next ?_ (by with_reducible assumption)) | (with_reducible refine Below.drew ?_) | (with_reducible refine Below.laid ?_ _) | (with_reducible refine Below.setCell ?_ ?_ _) | (with_reducible refine size_of ?_) | (with_reducible refine Nat.le_succ_of_le ?_) | go_size)))⟩
  replace hw := Decidable.not_not.1 hw
  rw [hw, errV_zero rfl]
  by_cases hi0 : i < 0
  · go_wp2
    go_ret
    exact ⟨rfl, (by (repeat' (first | (with_reducible exact Below.refl _ _) | (with_reducible assumption) | (with_reducible refine Below.next ?_ (by with_reducible assumption)) | (with_reducible refine Below.drew ?_) | (with_reducible refine Below.laid ?_ _) | (with_reducible refine Below.setCell ?_ ?_ _) | (with_reducible refine size_of ?_) | (with_reducible refine Nat.le_succ_of_le ?_) | go_size)))⟩
  by_cases hk0 : k < 0
  · go_wp2
    go_ret
    exact ⟨rfl, (by (repeat' (first | (with_reducible exact Below.refl _ _) | (with_reducible assumption) | (with_reducible refine Below.next ?_ (by with_reducible assumption)) | (with_reducible refine Below.drew ?_) | (with_reducible refine Below.laid ?_ _) | (with_reducible refine Below.setCell ?_ ?_ _) | (with_reducible refine size_of ?_) | (with_reducible refine Nat.le_succ_of_le ?_) | go_size)))⟩
  by_cases hi1 : th ≤ i
  · go_wp2
    go_ret
    exact ⟨rfl, (by (repeat' (first | (with_reducible exact Below.refl _ _) | (with_reducible assumption) | (with_reducible refine Below.next ?_ (by with_reducible assumption)) | (with_reducible refine Below.drew ?_) | (with_reducible refine Below.laid ?_ _) | (with_reducible refine Below.setCell ?_ ?_ _) | (with_reducible refine size_of ?_) | (with_reducible refine Nat.le_succ_of_le ?_) | go_size)))⟩
  by_cases hk1 : th ≤ k
  · go_wp2
    go_ret
    exact ⟨rfl, (by (repeat' (first | (with_reducible exact Below.refl _ _) | (with_reducible assumption) | (with_reducible refine Below.next ?_ (by with_reducible assumption)) | (with_reducible refine Below.drew ?_) | (with_reducible refine Below.laid ?_ _) | (with_reducible refine Below.setCell ?_ ?_ _) | (with_reducible refine size_of ?_) | (with_reducible refine Nat.le_succ_of_le ?_) | go_size)))⟩
  obtain ⟨I, rfl⟩ := Int.eq_ofNat_of_zero_le (show 0 ≤ i by omega)
  obtain ⟨J, rfl⟩ := Int.eq_ofNat_of_zero_le (show 0 ≤ k by omega)
  obtain ⟨⟨t0, t6⟩, _⟩ := worldChk_sets hw
  obtain ⟨n, rfl⟩ := Int.eq_ofNat_of_zero_le t0
  have hI : I < n := by omega
  have hJ : J < n := by omega
  have hn6 : n ≤ 6 := by omega
  obtain ⟨y, ey, e1, e2, e3, e4⟩ := HSB.out hw I J (by omega) (by omega)
  rw [Int.toNat_natCast] at e1 e2 e3 e4
  have HY := Lib.hid (And.intro (And.intro e1 e2) (And.intro e3 e4))
  have hSL := Venn.swapQ_len n I J
  have HSL := Lib.hid hSL
  clear hw HSB e1 e2 e3 e4 ey t0 t6 hSL
  obtain ⟨yt, ya, yb, yd⟩ := y
  go_wp2
  clear v0 v1 v2 v3 vl
  have HBW := Lib.hid BW
  have hw7 : Below w.heap.size w (w6.alloc (.cells #[.int .i64 a0, .int .i64 a1, .int .i64 a2, .int .i64 a3, .int .i64 a4, .int .i64 a5, .int .i64 a6, .int .i64 a7] 45)) := (by (repeat' (first | (with_reducible exact Below.refl _ _) | (with_reducible assumption) | (with_reducible refine Below.next ?_ (by with_reducible assumption)) | (with_reducible refine Below.drew ?_) | (with_reducible refine Below.laid ?_ _) | (with_reducible refine Below.setCell ?_ ?_ _) | (with_reducible refine size_of ?_) | (with_reducible refine Nat.le_succ_of_le ?_) | go_size)))
  have BW7 := BW.alloc (.cells #[.int .i64 a0, .int .i64 a1, .int .i64 a2, .int .i64 a3, .int .i64 a4, .int .i64 a5, .int .i64 a6, .int .i64 a7] 45)
  clear HBW BW hw6
  revert hw7 BW7
  generalize World.alloc _ _ = w7
  intro hw7 BW7
  go_loopw [16, 17] (fun o j wr => ∃ (m : Nat), m ≤ n ∧ j = .int .i64 m ∧ wr.ownsRow w7.heap.size 3 1 o m (((Venn.swapQ n I J).take m).map (Value.int .i64)) ∧ Below w7.heap.size w7 wr)
    (fun _ j _ => n - (intOf j).toNat)
  case atStart => exact ⟨0, Nat.zero_le _, rfl, World.ownsRow_nil _ _ _ _, Below.refl _ _⟩
  case round =>
    obtain ⟨m, hm, rfl, hown, hbw⟩ := hrel
    obtain ⟨wo, rfl⟩ : ∃ wo : World, wo = wr := ⟨_, rfl⟩
    obtain ⟨OA, oc, rfl⟩ := ownsRow_slice hown
    have BWo := BW7.keep hbw
    have v0 := BWo.cell 0
    have vl := BWo.lt
    have HOWN := Lib.hid hown
    clear hown
    by_cases hlt : m < n
    · have hm1 : (m : Int) < (n : Int) := by omega
      have hm6 : (m : Int) ≤ 6 := by omega
      have hat := Venn.swapQ_at (n := n) (i := I) (k := J) hlt
      have hsz := hbw.size
      by_cases e1 : m = I
      · rw [if_pos e1] at hat
        have hq : ((m : Int) == (I : Int)) = true := beq_iff_eq.2 (by omega)
        clear e1
        have HTK := Lib.hid (show ((Venn.swapQ n I J).take (m + 1)).map (Value.int .i64) = ((Venn.swapQ n I J).take m).map (Value.int .i64) ++ [.int .i64 (J : Int)] by rw [List.take_add_one, hat, List.map_append]; rfl)
        clear hat
        go_wp2_with (at_builtin; refine wpList_app1 _ rfl _ _ rfl w7.heap.size (.slice OA m oc) m _ rfl (HOWN.out.alloc _) wo.heap.size 1 (J : Int) rfl ?hy1 (by omega) (by simp; omega) ?_)
        case hy1 => exact (Blk.new wo 3 #[.int .i64 (J : Int)]).cell 0
        intro v8 w8 hown8 hgr8
        have hb8 : Below w7.heap.size w7 w8 := (Below.laid hbw _).grown hgr8 (by simp; omega) (fun g e => (HOWN.out.lt g e).1)
        obtain ⟨OB, ob, rfl⟩ := ownsRow_slice hown8
        have HO8 := Lib.hid hown8
        clear hown8 hgr8
        go_wp2
        go_roundw
        case rel => exact ⟨m + 1, by omega, by go_num, by rw [HTK.out, List.map_take]; exact HO8.out, hb8⟩
        case measure => simp [intOf]; omega
      · rw [if_neg e1] at hat
        have hq : ((m : Int) == (I : Int)) = false := beq_eq_false_iff_ne.2 (by omega)
        by_cases e2 : m = J
        · rw [if_pos e2] at hat
          have hq2 : ((m : Int) == (J : Int)) = true := beq_iff_eq.2 (by omega)
          clear e1 e2
          have HTK := Lib.hid (show ((Venn.swapQ n I J).take (m + 1)).map (Value.int .i64) = ((Venn.swapQ n I J).take m).map (Value.int .i64) ++ [.int .i64 (I : Int)] by rw [List.take_add_one, hat, List.map_append]; rfl)
          clear hat
          go_wp2_with (at_builtin; refine wpList_app1 _ rfl _ _ rfl w7.heap.size (.slice OA m oc) m _ rfl (HOWN.out.alloc _) wo.heap.size 1 (I : Int) rfl ?hy2 (by omega) (by simp; omega) ?_)
          case hy2 => exact (Blk.new wo 3 #[.int .i64 (I : Int)]).cell 0
          intro v8 w8 hown8 hgr8
          have hb8 : Below w7.heap.size w7 w8 := (Below.laid hbw _).grown hgr8 (by simp; omega) (fun g e => (HOWN.out.lt g e).1)
          obtain ⟨OB, ob, rfl⟩ := ownsRow_slice hown8
          have HO8 := Lib.hid hown8
          clear hown8 hgr8
          go_wp2
          go_roundw
          case rel => exact ⟨m + 1, by omega, by go_num, by rw [HTK.out, List.map_take]; exact HO8.out, hb8⟩
          case measure => simp [intOf]; omega
        · rw [if_neg e2] at hat
          have hq2 : ((m : Int) == (J : Int)) = false := beq_eq_false_iff_ne.2 (by omega)
          clear e1 e2
          have HTK := Lib.hid (show ((Venn.swapQ n I J).take (m + 1)).map (Value.int .i64) = ((Venn.swapQ n I J).take m).map (Value.int .i64) ++ [.int .i64 (m : Int)] by rw [List.take_add_one, hat, List.map_append]; rfl)
          clear hat
          go_wp2_with (at_builtin; refine wpList_app1 _ rfl _ _ rfl w7.heap.size (.slice OA m oc) m _ rfl (HOWN.out.alloc _) wo.heap.size 1 (m : Int) rfl ?hy3 (by omega) (by simp; omega) ?_)
          case hy3 => exact (Blk.new wo 3 #[.int .i64 (m : Int)]).cell 0
          intro v8 w8 hown8 hgr8
          have hb8 : Below w7.heap.size w7 w8 := (Below.laid hbw _).grown hgr8 (by simp; omega) (fun g e => (HOWN.out.lt g e).1)
          obtain ⟨OB, ob, rfl⟩ := ownsRow_slice hown8
          have HO8 := Lib.hid hown8
          clear hown8 hgr8
          go_wp2
          go_roundw
          case rel => exact ⟨m + 1, by omega, by go_num, by rw [HTK.out, List.map_take]; exact HO8.out, hb8⟩
          case measure => simp [intOf]; omega
    · have hm' : m = n := by omega
      subst hm'
      have hI8 := IsInts.of_own HOWN.out
      rw [List.take_of_length_le (by rw [HSL.out]; exact Nat.le_refl _)] at hI8
      have HQ := Lib.hid hI8
      have HW := Lib.hid (Below.next hw7 hbw)
      obtain ⟨v0, v1, v2, v3⟩ := BWo.cells4
      clear hI8 HOWN BW7 hbw hw7
      go_wp2_with fail
      refine (turn_Things _ (Venn.swapQ m I J) m a b d _ (HQ.out.keep (by (repeat' (first | (with_reducible exact Below.refl _ _) | (with_reducible assumption) | (with_reducible refine Below.next ?_ (by with_reducible assumption)) | (with_reducible refine Below.drew ?_) | (with_reducible refine Below.laid ?_ _) | (with_reducible refine Below.setCell ?_ ?_ _) | (with_reducible refine size_of ?_) | (with_reducible refine Nat.le_succ_of_le ?_) | go_size))))).mono ?_
      rintro e w8 ⟨rfl, hb8⟩
      rw [HY.out.1.2, HY.out.1.1, errV_zero rfl]
      simp only [worldV]
      have BW8 := BWo.keep hb8
      have hw8 := Below.next HW.out hb8
      have BY := Blk.new w8 25 #[.int .i64 yt, .int .i64 ya, .int .i64 yb, .int .i64 yd]
      clear v0 v1 v2 v3 vl BWo
      obtain ⟨y0, y1, y2, y3⟩ := BY.cells4
      go_wp2_with fail
      refine (turn_Things _ (Venn.swapQ m I J) yt ya yb yd _ (HQ.out.keep (by (repeat' (first | (with_reducible exact Below.refl _ _) | (with_reducible assumption) | (with_reducible refine Below.next ?_ (by with_reducible assumption)) | (with_reducible refine Below.drew ?_) | (with_reducible refine Below.laid ?_ _) | (with_reducible refine Below.setCell ?_ ?_ _) | (with_reducible refine size_of ?_) | (with_reducible refine Nat.le_succ_of_le ?_) | go_size))))).mono ?_
      rintro e w9 ⟨rfl, hb9⟩
      rw [HY.out.2.2, HY.out.2.1, errV_zero rfl]
      simp only [worldV]
      have hq9 : Below w8.heap.size w8 w9 := (by (repeat' (first | (with_reducible exact Below.refl _ _) | (with_reducible assumption) | (with_reducible refine Below.next ?_ (by with_reducible assumption)) | (with_reducible refine Below.drew ?_) | (with_reducible refine Below.laid ?_ _) | (with_reducible refine Below.setCell ?_ ?_ _) | (with_reducible refine size_of ?_) | (with_reducible refine Nat.le_succ_of_le ?_) | go_size)))
      have BW9 := BW8.keep hq9
      have hw9 := Below.next hw8 hq9
      clear y0 y1 y2 y3 BY BW8 hb8 hb9 hw8
      have BZ := Blk.new w9 25 #[.int .i64 m, .int .i64 a, .int .i64 b, .int .i64 d]
      have BWA := BW9.alloc (.cells #[.int .i64 m, .int .i64 a, .int .i64 b, .int .i64 d] 25)
      have hwA := Below.laid hw9 (.cells #[.int .i64 m, .int .i64 a, .int .i64 b, .int .i64 d] 25)
      go_upto_region 21 with (fail)
      clear BW9 hw9
      revert BZ BWA hwA
      generalize World.alloc _ _ = wA
      intro BZ BWA hwA
      obtain ⟨v0, v1, v2, v3⟩ := BWA.cells4
      obtain ⟨z0, z1, z2, z3⟩ := BZ.cells4
      have hq3 := eql_three 9997 a b d wA
      go_wp2
      go_ret
      exact ⟨rfl, hwA⟩
end Go.Proofs.YtcbjmfljdmomhaaDoor
