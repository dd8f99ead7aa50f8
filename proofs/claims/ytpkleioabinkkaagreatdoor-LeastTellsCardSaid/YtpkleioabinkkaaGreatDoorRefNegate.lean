/-
  THE WALK of the reference's Negate.
-/
import Derived.Test.YtpkleioabinkkaaGreatDoorNegate
import Derived.Test.YtpkleioabinkkaaGreatDoorRefG
namespace Go.Proofs.YtpkleioabinkkaaGreatDoor
open Go.RowKit

/-- A formula, and a fault's number, as a call's result. -/
def RefPost (f : Venn.Form) (chk : Int) (w : World) (e : Ending) (w' : World) : Prop :=
  ∃ A kA C kC, e = .returned (.tuple #[.agg #[.slice A f.atoms.length kA, .slice C f.code.length kC], .int .i64 chk]) ∧ Below w.heap.size w w' ∧ IsAtoms w' (.slice A f.atoms.length kA) f.atoms ∧ IsInts w' (.slice C f.code.length kC) f.code
theorem RefPost.none {chk : Int} {w w' : World} (h : Below w.heap.size w w') : RefPost noForm chk w (.returned (.tuple #[.agg #[.slice none 0 0, .slice none 0 0], .int .i64 chk])) w' :=
  ⟨Option.none, 0, Option.none, 0, rfl, h, IsAtoms.nil _, IsIntsNil _⟩
theorem IsInts.rd {w : World} {A : Option Addr} {n c : Nat} {l : List Int} (h : IsInts w (.slice A n c) l) : Rd w A (l.map (Value.int .i64)) := by
  obtain ⟨A', c', e, hr, _, _⟩ := h
  simp only [Value.slice.injEq] at e
  obtain ⟨rfl, _, _⟩ := e
  exact hr

set_option maxHeartbeats 4000000 in
set_option maxRecDepth 100000 in
theorem ref_Negate (sa sc : Value) (l : List Venn.Atom) (c : List Int) (w : World) (ha : IsAtoms w sa l) (hc : IsInts w sc c) :
    Calls Tryz.prog 14 #[.agg #[sa, sc]] w (RefPost (negV ⟨l, c⟩) (Venn.negChk ⟨l, c⟩) w) := by
  obtain ⟨A, cA, rfl⟩ := ha.slice
  obtain ⟨C, cC, rfl⟩ := hc.slice
  have HA := Lib.hid ha
  have HC := Lib.hid hc
  have HRD := Lib.hid hc.rd
  clear ha hc
  by_cases h1 : ¬ Venn.formChk ⟨l, c⟩ = 0
  · have hn : Venn.negChk ⟨l, c⟩ = Venn.formChk ⟨l, c⟩ := if_neg h1
    have HV := Lib.hid (show negV ⟨l, c⟩ = noForm by rw [negV, if_neg (by rw [hn]; exact h1)])
    have HRF := Lib.hid (fun W h1 h2 => ref_Form (.slice A l.length cA) (.slice C c.length cC) l c W h1 h2)
    have q1 : (Venn.formChk ⟨l, c⟩ == 0) = false := by simpa using h1
    have q2 : (Venn.formChk ⟨l, c⟩ != 0) = true := by simpa using h1
    rw [hn, HV.out]
    clear h1 hn HV
    generalize Venn.formChk ⟨l, c⟩ = E at q1 q2 HRF ⊢
    go_enter Tryz.func14, Tryz.ntmps14
    go_wp2_with fail
    refine (HRF.out _ (HA.out.keep (by (repeat' (first | (with_reducible exact Below.refl _ _) | (with_reducible assumption) | (with_reducible refine Below.next ?_ (by with_reducible assumption)) | (with_reducible refine Below.drew ?_) | (with_reducible refine Below.laid ?_ _) | (with_reducible refine Below.setCell ?_ ?_ _) | (with_reducible refine size_of ?_) | (with_reducible refine Nat.le_succ_of_le ?_) | go_size)))) (HC.out.keep (by (repeat' (first | (with_reducible exact Below.refl _ _) | (with_reducible assumption) | (with_reducible refine Below.next ?_ (by with_reducible assumption)) | (with_reducible refine Below.drew ?_) | (with_reducible refine Below.laid ?_ _) | (with_reducible refine Below.setCell ?_ ?_ _) | (with_reducible refine size_of ?_) | (with_reducible refine Nat.le_succ_of_le ?_) | go_size))))).mono ?_
    rintro e w1 ⟨rfl, hb1⟩
    have hq1 : Below w.heap.size w w1 := by (repeat' (first | (with_reducible exact Below.refl _ _) | (with_reducible assumption) | (with_reducible refine Below.next ?_ (by with_reducible assumption)) | (with_reducible refine Below.drew ?_) | (with_reducible refine Below.laid ?_ _) | (with_reducible refine Below.setCell ?_ ?_ _) | (with_reducible refine size_of ?_) | (with_reducible refine Nat.le_succ_of_le ?_) | go_size))
    have hw1 : Below w.heap.size w w1 := hq1
    have BR : Blk w1 (w.heap.size + 1) 25 #[.slice none 0 0, .slice none 0 0] := (boxes_is hb1).2
    obtain ⟨⟨r0, r1⟩, r2, r3⟩ := BR.cells2
    have GL := below_set2 hw1 (show w.heap.size ≤ w.heap.size + 1 by omega) (.slice none 0 0) (.slice none 0 0)
    have GS := BR.set2 (.slice none 0 0) (.slice none 0 0)
    go_wp2
    clear r0 r1 r2 r3
    revert GL GS
    generalize World.setCell _ _ _ = Wf
    intro GL GS
    obtain ⟨⟨e0, e1⟩, _⟩ := GS.cells2
    refine bodyPost_ret (v := .tuple #[.agg #[.slice none 0 0, .slice none 0 0], .int .i64 E]) (by simp [results, Tryz.results14, go_sem, e0, e1]) rfl ?_
    exact RefPost.none GL
  replace h1 := Decidable.not_not.1 h1
  have HX := Lib.hid h1
  obtain ⟨⟨hl0, hl6⟩, ⟨hc0, hc20⟩, _⟩ := form_small h1
  by_cases h20 : c.length = 20
  · have hn : Venn.negChk ⟨l, c⟩ = 4 := by rw [Venn.negChk, if_pos h1, if_pos h20]
    have HV := Lib.hid (show negV ⟨l, c⟩ = noForm by rw [negV, if_neg (by rw [hn]; decide)])
    rw [hn, HV.out]
    have hq : ((c.length : Int) == 20) = true := beq_iff_eq.2 (by omega)
    clear h1 hn h20 HV
    go_enter Tryz.func14, Tryz.ntmps14
    go_wp2_with fail
    refine (ref_Form _ _ l c _ (HA.out.keep (by (repeat' (first | (with_reducible exact Below.refl _ _) | (with_reducible assumption) | (with_reducible refine Below.next ?_ (by with_reducible assumption)) | (with_reducible refine Below.drew ?_) | (with_reducible refine Below.laid ?_ _) | (with_reducible refine Below.setCell ?_ ?_ _) | (with_reducible refine size_of ?_) | (with_reducible refine Nat.le_succ_of_le ?_) | go_size)))) (HC.out.keep (by (repeat' (first | (with_reducible exact Below.refl _ _) | (with_reducible assumption) | (with_reducible refine Below.next ?_ (by with_reducible assumption)) | (with_reducible refine Below.drew ?_) | (with_reducible refine Below.laid ?_ _) | (with_reducible refine Below.setCell ?_ ?_ _) | (with_reducible refine size_of ?_) | (with_reducible refine Nat.le_succ_of_le ?_) | go_size))))).mono ?_
    rintro e w1 ⟨rfl, hb1⟩
    rw [HX.out]
    have hq1 : Below w.heap.size w w1 := by (repeat' (first | (with_reducible exact Below.refl _ _) | (with_reducible assumption) | (with_reducible refine Below.next ?_ (by with_reducible assumption)) | (with_reducible refine Below.drew ?_) | (with_reducible refine Below.laid ?_ _) | (with_reducible refine Below.setCell ?_ ?_ _) | (with_reducible refine size_of ?_) | (with_reducible refine Nat.le_succ_of_le ?_) | go_size))
    have hw1 : Below w.heap.size w w1 := hq1
    have BF : Blk w1 w.heap.size 25 #[.slice A l.length cA, .slice C c.length cC] := (boxes_is hb1).1
    have BR : Blk w1 (w.heap.size + 1) 25 #[.slice none 0 0, .slice none 0 0] := (boxes_is hb1).2
    obtain ⟨⟨BF0, BF1⟩, _⟩ := BF.cells2
    have BFl := BF.lt
    obtain ⟨⟨r0, r1⟩, r2, r3⟩ := BR.cells2
    have GL := below_set2 hw1 (show w.heap.size ≤ w.heap.size + 1 by omega) (.slice none 0 0) (.slice none 0 0)
    have GS := BR.set2 (.slice none 0 0) (.slice none 0 0)
    go_wp2
    clear r0 r1 r2 r3
    revert GL GS
    generalize World.setCell _ _ _ = Wf
    intro GL GS
    obtain ⟨⟨e0, e1⟩, _⟩ := GS.cells2
    refine bodyPost_ret (v := .tuple #[.agg #[.slice none 0 0, .slice none 0 0], .int .i64 4]) (by simp [results, Tryz.results14, go_sem, e0, e1]) rfl ?_
    exact RefPost.none GL
  have hn : Venn.negChk ⟨l, c⟩ = 0 := by rw [Venn.negChk, if_pos h1, if_neg h20]
  have HV := Lib.hid (show negV ⟨l, c⟩ = ⟨l, c ++ [12]⟩ by rw [negV, if_pos hn]; rfl)
  rw [hn, HV.out]
  have hq : ((c.length : Int) == 20) = false := beq_eq_false_iff_ne.2 (by omega)
  clear h1 hn h20 HV
  go_enter Tryz.func14, Tryz.ntmps14
  go_wp2_with fail
  refine (ref_Form _ _ l c _ (HA.out.keep (by (repeat' (first | (with_reducible exact Below.refl _ _) | (with_reducible assumption) | (with_reducible refine Below.next ?_ (by with_reducible assumption)) | (with_reducible refine Below.drew ?_) | (with_reducible refine Below.laid ?_ _) | (with_reducible refine Below.setCell ?_ ?_ _) | (with_reducible refine size_of ?_) | (with_reducible refine Nat.le_succ_of_le ?_) | go_size)))) (HC.out.keep (by (repeat' (first | (with_reducible exact Below.refl _ _) | (with_reducible assumption) | (with_reducible refine Below.next ?_ (by with_reducible assumption)) | (with_reducible refine Below.drew ?_) | (with_reducible refine Below.laid ?_ _) | (with_reducible refine Below.setCell ?_ ?_ _) | (with_reducible refine size_of ?_) | (with_reducible refine Nat.le_succ_of_le ?_) | go_size))))).mono ?_
  rintro e w1 ⟨rfl, hb1⟩
  rw [HX.out]
  have hq1 : Below w.heap.size w w1 := by (repeat' (first | (with_reducible exact Below.refl _ _) | (with_reducible assumption) | (with_reducible refine Below.next ?_ (by with_reducible assumption)) | (with_reducible refine Below.drew ?_) | (with_reducible refine Below.laid ?_ _) | (with_reducible refine Below.setCell ?_ ?_ _) | (with_reducible refine size_of ?_) | (with_reducible refine Nat.le_succ_of_le ?_) | go_size))
  have hw1 : Below w.heap.size w w1 := hq1
  have BF : Blk w1 w.heap.size 25 #[.slice A l.length cA, .slice C c.length cC] := (boxes_is hb1).1
  have BR : Blk w1 (w.heap.size + 1) 25 #[.slice none 0 0, .slice none 0 0] := (boxes_is hb1).2
  obtain ⟨⟨BF0, BF1⟩, _⟩ := BF.cells2
  have BFl := BF.lt
  go_upto_region 7 with (fail)
  clear BF0 BF1 BFl hb1 hq1
  have hltF := BR.lt
  have BN := Blk.new w1 25 #[.slice A l.length cA, .slice none 0 0]
  replace BF := BF.alloc (.cells #[.slice A l.length cA, .slice none 0 0] 25)
  replace BR := BR.alloc (.cells #[.slice A l.length cA, .slice none 0 0] 25)
  have hw2 : Below w.heap.size w (w1.alloc (.cells #[.slice A l.length cA, .slice none 0 0] 25)) := by (repeat' (first | (with_reducible exact Below.refl _ _) | (with_reducible assumption) | (with_reducible refine Below.next ?_ (by with_reducible assumption)) | (with_reducible refine Below.drew ?_) | (with_reducible refine Below.laid ?_ _) | (with_reducible refine Below.setCell ?_ ?_ _) | (with_reducible refine size_of ?_) | (with_reducible refine Nat.le_succ_of_le ?_) | go_size))
  revert BN BF BR hw2
  generalize World.alloc _ _ = wx
  intro BN BF BR hw2
  clear hw1
  have hnb : w.heap.size + 1 < w1.heap.size := hltF
  clear hltF
  generalize w1.heap.size = nb at BN hnb ⊢
  obtain ⟨⟨n0, n1⟩, n2, n3⟩ := BN.cells2
  obtain ⟨⟨f0, f1⟩, f2, f3⟩ := BF.cells2
  have hlN := BN.lt
  have hnx : nb < wx.heap.size := BN.lt
  have hlF := BF.lt
  go_wp2_with (at_builtin; refine wpList_appR _ rfl _ _ rfl wx.heap.size (.slice none 0 0) 0 [] rfl (World.ownsRow_nil _ _ _ _) C cC c rfl (HRD.out.keep (by with_reducible exact hw2)) (by omega) (Nat.le_refl _) ?_)
  intro v3 w3 hown3 hg3
  obtain ⟨V3, k3, rfl⟩ := ownsRow_slice hown3
  have hb3 : Below wx.heap.size wx w3 := (Below.refl _ _).grown hg3 (Nat.le_refl _) (fun g h => by cases h)
  have hw3 : Below w.heap.size w w3 := Below.next hw2 hb3
  replace BN := BN.keep hb3
  replace BR := BR.keep hb3
  clear n0 n1 n2 n3 f0 f1 f2 f3 hlN hlF hg3 BF
  obtain ⟨⟨n0, n1⟩, n2, n3⟩ := BN.cells2
  have hlN := BN.lt
  have hsz3 := hb3.size
  go_upto_region 8 with (fail)
  have GN := BN.set_ 1 (.slice V3 c.length k3)
  simp at GN
  have GR := BR.far (p := ⟨nb, 1, none⟩) (by show ¬ w.heap.size + 1 = nb; omega) (.slice V3 c.length k3)
  have GO := own_but hown3 ((But.refl (fun b => b = nb) w3).set_ (p := ⟨nb, 1, none⟩) rfl (.slice V3 c.length k3)) (fun b e hC => by have := (hown3.lt b e).1; omega)
  have hw4 : Below w.heap.size w (w3.setCell ⟨nb, 1, none⟩ (.slice V3 c.length k3)) := hw3.setCell (by show w.heap.size ≤ nb; omega) _
  have hsz4 : wx.heap.size ≤ (w3.setCell ⟨nb, 1, none⟩ (.slice V3 c.length k3)).heap.size := by simpa using hsz3
  clear n0 n1 n2 n3 hlN BN BR hown3 hw3 hb3
  revert GN GR GO hw4 hsz4
  generalize World.setCell _ _ _ = w4
  intro GN GR GO hw4 hsz4
  obtain ⟨⟨n0, n1⟩, n2, n3⟩ := GN.cells2
  have hlN := GN.lt
  have GOA := GO.alloc (.cells #[.int .i64 12] 3)
  go_wp2_with (at_builtin; refine wpList_app1 _ rfl _ _ rfl wx.heap.size (.slice V3 c.length k3) c.length _ rfl GOA w4.heap.size 1 12 rfl ?hy1 (by omega) (by simp; omega) ?_)
  case hy1 => exact (Blk.new w4 3 #[.int .i64 12]).cell 0
  intro v5 w5 hown5 hg5
  obtain ⟨V5, k5, rfl⟩ := ownsRow_slice hown5
  have hbt := But.of_grown hg5
  have hw5 : Below w.heap.size w w5 := (Below.laid hw4 _).grown hg5 (by have := hw4.size; simp; omega) (fun g hg => by have := (GO.lt g hg).1; omega)
  have GN5 := (GN.alloc _).but hbt (fun e => by have := (GO.lt _ e).1; omega)
  have GR5 := (GR.alloc _).but hbt (fun e => by have := (GO.lt _ e).1; omega)
  clear n0 n1 n2 n3 hlN GN GR GO GOA hg5 hbt hsz4 hw4
  obtain ⟨⟨n0, n1⟩, n2, n3⟩ := GN5.cells2
  have hlN := GN5.lt
  go_upto_region 9 with (fail)
  have GN6 := GN5.set_ 1 (.slice V5 (c.length + 1) k5)
  simp at GN6
  have GR6 := GR5.far (p := ⟨nb, 1, none⟩) (by show ¬ w.heap.size + 1 = nb; omega) (.slice V5 (c.length + 1) k5)
  have GO6 := own_but hown5 ((But.refl (fun b => b = nb) w5).set_ (p := ⟨nb, 1, none⟩) rfl (.slice V5 (c.length + 1) k5)) (fun b e hC => by have := (hown5.lt b e).1; omega)
  have hw6 : Below w.heap.size w (w5.setCell ⟨nb, 1, none⟩ (.slice V5 (c.length + 1) k5)) := hw5.setCell (by show w.heap.size ≤ nb; omega) _
  clear n0 n1 n2 n3 hlN GN5 GR5 hown5 hw5
  revert GN6 GR6 GO6 hw6
  generalize World.setCell _ _ _ = w6
  intro GN6 GR6 GO6 hw6
  obtain ⟨⟨n0, n1⟩, n2, n3⟩ := GN6.cells2
  obtain ⟨⟨r0, r1⟩, r2, r3⟩ := GR6.cells2
  have hlN := GN6.lt
  have hlR := GR6.lt
  have GL := below_set2 hw6 (show w.heap.size ≤ w.heap.size + 1 by omega) (.slice A l.length cA) (.slice V5 (c.length + 1) k5)
  have GS := GR6.set2 (.slice A l.length cA) (.slice V5 (c.length + 1) k5)
  have GF := own_but GO6 (((But.refl (fun b => b = w.heap.size + 1) w6).set_ (p := ⟨w.heap.size + 1, 0, none⟩) rfl (.slice A l.length cA)).set_ (p := ⟨w.heap.size + 1, 1, none⟩) rfl (.slice V5 (c.length + 1) k5)) (fun b e hC => by have := (GO6.lt b e).1; omega)
  go_wp2
  clear n0 n1 n2 n3 r0 r1 r2 r3
  revert GL GS GF
  generalize World.setCell _ _ _ = Wf
  intro GL GS GF
  obtain ⟨⟨e0, e1⟩, _⟩ := GS.cells2
  refine bodyPost_ret (v := .tuple #[.agg #[.slice A l.length cA, .slice V5 (c.length + 1) k5], .int .i64 0]) (by simp [results, Tryz.results14, go_sem, e0, e1]) rfl ?_
  refine ⟨A, cA, V5, k5, by simp, GL, HA.out.keep GL, ?_⟩
  have := IsInts.of_own (l := c ++ [12]) (by simpa using GF)
  simpa using this
end Go.Proofs.YtpkleioabinkkaaGreatDoor
