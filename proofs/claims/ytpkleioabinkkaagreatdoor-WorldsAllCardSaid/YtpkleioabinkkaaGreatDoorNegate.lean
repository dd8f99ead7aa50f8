/-
  THE WALK of form.Negate.
-/
import Derived.Test.YtpkleioabinkkaaGreatDoorSpanG
import Derived.Test.YtpkleioabinkkaaGreatDoorVennP1
namespace Go.Proofs.YtpkleioabinkkaaGreatDoor
open Go.RowKit

/-- A formula as a call's result. -/
def FormPost (f : Venn.Form) (chk : Int) (w : World) (e : Ending) (w' : World) : Prop :=
  ∃ A kA C kC, e = .returned (.tuple #[.agg #[.slice A f.atoms.length kA, .slice C f.code.length kC], errV chk]) ∧ Below w.heap.size w w' ∧ IsAtoms w' (.slice A f.atoms.length kA) f.atoms ∧ IsInts w' (.slice C f.code.length kC) f.code
def noForm : Venn.Form := ⟨[], []⟩
def negV (f : Venn.Form) : Venn.Form := if Venn.negChk f = 0 then Venn.negF f else noForm
theorem FormPost.none {chk : Int} {w w' : World} (h : Below w.heap.size w w') : FormPost noForm chk w (.returned (.tuple #[.agg #[.slice none 0 0, .slice none 0 0], errV chk])) w' :=
  ⟨Option.none, 0, Option.none, 0, rfl, h, IsAtoms.nil _, IsIntsNil _⟩

set_option maxHeartbeats 2000000 in
set_option maxRecDepth 100000 in
theorem form_Negate (sa sc : Value) (l : List Venn.Atom) (c : List Int) (w : World) (ha : IsAtoms w sa l) (hc : IsInts w sc c) (hk : KindsOk w) :
    Calls Tryz.prog 36 #[.agg #[sa, sc]] w (FormPost (negV ⟨l, c⟩) (Venn.negChk ⟨l, c⟩) w) := by
  obtain ⟨A, cA, rfl⟩ := ha.slice
  obtain ⟨C, cC, rfl⟩ := hc.slice
  have HA := Lib.hid ha
  have HC := Lib.hid hc
  have HK := Lib.hid hk
  clear ha hc hk
  by_cases h1 : ¬ Venn.formChk ⟨l, c⟩ = 0
  · have hn : Venn.negChk ⟨l, c⟩ = Venn.formChk ⟨l, c⟩ := if_neg h1
    have HX := Lib.hid (errV_ne h1)
    have HV := Lib.hid (show negV ⟨l, c⟩ = noForm by rw [negV, if_neg (by rw [hn]; exact h1)])
    rw [hn, HV.out]
    clear h1 hn
    go_enter Tryz.func36, Tryz.ntmps36
    go_wp2_with fail
    refine (form_Check _ _ l c _ (HA.out.keep (by (repeat' (first | (with_reducible exact Below.refl _ _) | (with_reducible assumption) | (with_reducible refine Below.next ?_ (by with_reducible assumption)) | (with_reducible refine Below.drew ?_) | (with_reducible refine Below.laid ?_ _) | (with_reducible refine Below.setCell ?_ ?_ _) | (with_reducible refine size_of ?_) | (with_reducible refine Nat.le_succ_of_le ?_) | go_size)))) (HC.out.keep (by (repeat' (first | (with_reducible exact Below.refl _ _) | (with_reducible assumption) | (with_reducible refine Below.next ?_ (by with_reducible assumption)) | (with_reducible refine Below.drew ?_) | (with_reducible refine Below.laid ?_ _) | (with_reducible refine Below.setCell ?_ ?_ _) | (with_reducible refine size_of ?_) | (with_reducible refine Nat.le_succ_of_le ?_) | go_size)))) (HK.out.keep (by (repeat' (first | (with_reducible exact Below.refl _ _) | (with_reducible assumption) | (with_reducible refine Below.next ?_ (by with_reducible assumption)) | (with_reducible refine Below.drew ?_) | (with_reducible refine Below.laid ?_ _) | (with_reducible refine Below.setCell ?_ ?_ _) | (with_reducible refine size_of ?_) | (with_reducible refine Nat.le_succ_of_le ?_) | go_size))))).mono ?_
    rintro e w1 ⟨rfl, hb1⟩
    rw [HX.out]
    have hq1 : Below w.heap.size w w1 := by (repeat' (first | (with_reducible exact Below.refl _ _) | (with_reducible assumption) | (with_reducible refine Below.next ?_ (by with_reducible assumption)) | (with_reducible refine Below.drew ?_) | (with_reducible refine Below.laid ?_ _) | (with_reducible refine Below.setCell ?_ ?_ _) | (with_reducible refine size_of ?_) | (with_reducible refine Nat.le_succ_of_le ?_) | go_size))
    have hw1 : Below w.heap.size w w1 := hq1
    have BR := (Blk.newAt (w := w.alloc (.cells #[.slice A l.length cA, .slice C c.length cC] 25)) (g := w.heap.size + 1) (by simp) 25 #[.slice none 0 0, .slice none 0 0]).keep hb1
    obtain ⟨⟨r0, r1⟩, s0, s1⟩ := BR.cells2
    have GL := below_set2 hw1 (show w.heap.size ≤ w.heap.size + 1 by omega) (.slice none 0 0) (.slice none 0 0)
    have GS := BR.set2 (.slice none 0 0) (.slice none 0 0)
    go_wp2
    clear r0 r1 s0 s1
    revert GL GS
    generalize World.setCell _ _ _ = Wf
    intro GL GS
    obtain ⟨⟨e0, e1⟩, _⟩ := GS.cells2
    refine bodyPost_ret (v := .tuple #[.agg #[.slice none 0 0, .slice none 0 0], .iface 86 (.int .i64 (Venn.formChk ⟨l, c⟩))]) (by simp [results, Tryz.results36, go_sem, e0, e1]) rfl ?_
    rw [← HX.out]
    exact FormPost.none GL
  replace h1 := Decidable.not_not.1 h1
  have HX := Lib.hid (errV_zero h1)
  by_cases h20 : c.length = 20
  · have hn : Venn.negChk ⟨l, c⟩ = 4 := by rw [Venn.negChk, if_pos h1, if_pos h20]
    have HV := Lib.hid (show negV ⟨l, c⟩ = noForm by rw [negV, if_neg (by rw [hn]; decide)])
    rw [hn, HV.out]
    have hq : ((c.length : Int) == 20) = true := beq_iff_eq.2 (by omega)
    clear h1 hn h20
    go_enter Tryz.func36, Tryz.ntmps36
    go_wp2_with fail
    refine (form_Check _ _ l c _ (HA.out.keep (by (repeat' (first | (with_reducible exact Below.refl _ _) | (with_reducible assumption) | (with_reducible refine Below.next ?_ (by with_reducible assumption)) | (with_reducible refine Below.drew ?_) | (with_reducible refine Below.laid ?_ _) | (with_reducible refine Below.setCell ?_ ?_ _) | (with_reducible refine size_of ?_) | (with_reducible refine Nat.le_succ_of_le ?_) | go_size)))) (HC.out.keep (by (repeat' (first | (with_reducible exact Below.refl _ _) | (with_reducible assumption) | (with_reducible refine Below.next ?_ (by with_reducible assumption)) | (with_reducible refine Below.drew ?_) | (with_reducible refine Below.laid ?_ _) | (with_reducible refine Below.setCell ?_ ?_ _) | (with_reducible refine size_of ?_) | (with_reducible refine Nat.le_succ_of_le ?_) | go_size)))) (HK.out.keep (by (repeat' (first | (with_reducible exact Below.refl _ _) | (with_reducible assumption) | (with_reducible refine Below.next ?_ (by with_reducible assumption)) | (with_reducible refine Below.drew ?_) | (with_reducible refine Below.laid ?_ _) | (with_reducible refine Below.setCell ?_ ?_ _) | (with_reducible refine size_of ?_) | (with_reducible refine Nat.le_succ_of_le ?_) | go_size))))).mono ?_
    rintro e w1 ⟨rfl, hb1⟩
    rw [HX.out]
    have hq1 : Below w.heap.size w w1 := by (repeat' (first | (with_reducible exact Below.refl _ _) | (with_reducible assumption) | (with_reducible refine Below.next ?_ (by with_reducible assumption)) | (with_reducible refine Below.drew ?_) | (with_reducible refine Below.laid ?_ _) | (with_reducible refine Below.setCell ?_ ?_ _) | (with_reducible refine size_of ?_) | (with_reducible refine Nat.le_succ_of_le ?_) | go_size))
    have hw1 : Below w.heap.size w w1 := hq1
    have BF := ((Blk.new w 25 #[.slice A l.length cA, .slice C c.length cC]).alloc _).keep hb1
    have BR := (Blk.newAt (w := w.alloc (.cells #[.slice A l.length cA, .slice C c.length cC] 25)) (g := w.heap.size + 1) (by simp) 25 #[.slice none 0 0, .slice none 0 0]).keep hb1
    obtain ⟨⟨b0, b1⟩, _⟩ := BF.cells2
    obtain ⟨⟨r0, r1⟩, s0, s1⟩ := BR.cells2
    have GL := below_set2 hw1 (show w.heap.size ≤ w.heap.size + 1 by omega) (.slice none 0 0) (.slice none 0 0)
    have GS := BR.set2 (.slice none 0 0) (.slice none 0 0)
    go_wp2
    clear r0 r1 s0 s1 b0 b1
    revert GL GS
    generalize World.setCell _ _ _ = Wf
    intro GL GS
    obtain ⟨⟨e0, e1⟩, _⟩ := GS.cells2
    refine bodyPost_ret (v := .tuple #[.agg #[.slice none 0 0, .slice none 0 0], .iface 86 (.int .i64 4)]) (by simp [results, Tryz.results36, go_sem, e0, e1]) rfl ?_
    exact FormPost.none GL
  have hn : Venn.negChk ⟨l, c⟩ = 0 := by rw [Venn.negChk, if_pos h1, if_neg h20]
  have HV := Lib.hid (show negV ⟨l, c⟩ = ⟨l, c ++ [12]⟩ by rw [negV, if_pos hn]; rfl)
  rw [hn, HV.out]
  have hq : ((c.length : Int) == 20) = false := beq_eq_false_iff_ne.2 (by omega)
  have HF := Lib.hid h1
  obtain ⟨⟨hl0, hl6⟩, ⟨hc0, hc20⟩, _⟩ := form_small h1
  clear h1 hn h20
  go_enter Tryz.func36, Tryz.ntmps36
  go_wp2_with fail
  refine (form_Check _ _ l c _ (HA.out.keep (by (repeat' (first | (with_reducible exact Below.refl _ _) | (with_reducible assumption) | (with_reducible refine Below.next ?_ (by with_reducible assumption)) | (with_reducible refine Below.drew ?_) | (with_reducible refine Below.laid ?_ _) | (with_reducible refine Below.setCell ?_ ?_ _) | (with_reducible refine size_of ?_) | (with_reducible refine Nat.le_succ_of_le ?_) | go_size)))) (HC.out.keep (by (repeat' (first | (with_reducible exact Below.refl _ _) | (with_reducible assumption) | (with_reducible refine Below.next ?_ (by with_reducible assumption)) | (with_reducible refine Below.drew ?_) | (with_reducible refine Below.laid ?_ _) | (with_reducible refine Below.setCell ?_ ?_ _) | (with_reducible refine size_of ?_) | (with_reducible refine Nat.le_succ_of_le ?_) | go_size)))) (HK.out.keep (by (repeat' (first | (with_reducible exact Below.refl _ _) | (with_reducible assumption) | (with_reducible refine Below.next ?_ (by with_reducible assumption)) | (with_reducible refine Below.drew ?_) | (with_reducible refine Below.laid ?_ _) | (with_reducible refine Below.setCell ?_ ?_ _) | (with_reducible refine size_of ?_) | (with_reducible refine Nat.le_succ_of_le ?_) | go_size))))).mono ?_
  rintro e w1 ⟨rfl, hb1⟩
  rw [HX.out]
  have hq1 : Below w.heap.size w w1 := by (repeat' (first | (with_reducible exact Below.refl _ _) | (with_reducible assumption) | (with_reducible refine Below.next ?_ (by with_reducible assumption)) | (with_reducible refine Below.drew ?_) | (with_reducible refine Below.laid ?_ _) | (with_reducible refine Below.setCell ?_ ?_ _) | (with_reducible refine size_of ?_) | (with_reducible refine Nat.le_succ_of_le ?_) | go_size))
  have hw1 : Below w.heap.size w w1 := hq1
  have BF := ((Blk.new w 25 #[.slice A l.length cA, .slice C c.length cC]).alloc _).keep hb1
  have BR := (Blk.newAt (w := w.alloc (.cells #[.slice A l.length cA, .slice C c.length cC] 25)) (g := w.heap.size + 1) (by simp) 25 #[.slice none 0 0, .slice none 0 0]).keep hb1
  have hg0 := BR.lt
  obtain ⟨⟨BF0, BF1⟩, _⟩ := BF.cells2
  have BFl := BF.lt
  go_wp2_with fail
  refine (form_Own _ _ l c _ (HA.out.keep (by (repeat' (first | (with_reducible exact Below.refl _ _) | (with_reducible assumption) | (with_reducible refine Below.next ?_ (by with_reducible assumption)) | (with_reducible refine Below.drew ?_) | (with_reducible refine Below.laid ?_ _) | (with_reducible refine Below.setCell ?_ ?_ _) | (with_reducible refine size_of ?_) | (with_reducible refine Nat.le_succ_of_le ?_) | go_size)))) (HC.out.keep (by (repeat' (first | (with_reducible exact Below.refl _ _) | (with_reducible assumption) | (with_reducible refine Below.next ?_ (by with_reducible assumption)) | (with_reducible refine Below.drew ?_) | (with_reducible refine Below.laid ?_ _) | (with_reducible refine Below.setCell ?_ ?_ _) | (with_reducible refine size_of ?_) | (with_reducible refine Nat.le_succ_of_le ?_) | go_size)))) HF.out).mono ?_
  rintro e w2 ⟨p, ga, ka, gc, kc, rfl, hb2, hpl, HO⟩
  have hw2 := Below.next hw1 hb2
  have hpl6 : p.length = l.length := by rw [← hpl]; simp
  clear BF0 BF1 BFl
  replace BF := BF.keep hb2
  replace BR := BR.keep hb2
  obtain ⟨⟨b0, b1⟩, b2, b3⟩ := BF.cells2
  go_upto_region 7 with (fail)
  have GL := below_set2 hw2 (Nat.le_refl _) (.slice (some ⟨ga, 0, none⟩) l.length ka) (.slice (some ⟨gc, 0, none⟩) c.length kc)
  have GS := BF.set2 (.slice (some ⟨ga, 0, none⟩) l.length ka) (.slice (some ⟨gc, 0, none⟩) c.length kc)
  have GR := (BR.far (p := ⟨w.heap.size, 0, none⟩) (by simp) (.slice (some ⟨ga, 0, none⟩) l.length ka)).far (p := ⟨w.heap.size, 1, none⟩) (by simp) (.slice (some ⟨gc, 0, none⟩) c.length kc)
  have GO := HO.but (((But.refl (fun b => b = w.heap.size) w2).set_ (p := ⟨w.heap.size, 0, none⟩) rfl (.slice (some ⟨ga, 0, none⟩) l.length ka)).set_ (p := ⟨w.heap.size, 1, none⟩) rfl (.slice (some ⟨gc, 0, none⟩) c.length kc)) (by omega)
  have hz : w1.heap.size ≤ ((w2.setCell ⟨w.heap.size, 0, none⟩ (.slice (some ⟨ga, 0, none⟩) l.length ka)).setCell ⟨w.heap.size, 1, none⟩ (.slice (some ⟨gc, 0, none⟩) c.length kc)).heap.size := by have := hb2.size; simpa using this
  clear b0 b1 b2 b3 BF BR HO hw2
  revert GL GS GR GO hz
  generalize World.setCell _ _ _ = wx
  intro GL GS GR GO hz
  obtain ⟨⟨b0, b1⟩, _⟩ := GS.cells2
  have hgl := GS.lt
  have hca := GO.cRow.lt gc rfl
  have haa := GO.aRow.lt ga rfl
  have hne := GO.ne ga gc rfl rfl
  go_wp2_with (at_builtin; refine wpList_app1 _ rfl _ _ rfl w1.heap.size (.slice (some ⟨gc, 0, none⟩) c.length kc) c.length _ rfl (GO.cRow.alloc _) wx.heap.size 1 12 rfl ?hy1 (by omega) (by simp; omega) ?_)
  case hy1 => exact (Blk.new wx 3 #[.int .i64 12]).cell 0
  intro v' w3 hown hgr
  obtain ⟨gd, kd, qd, rfl, hgd, BD, hkd1, hkd2, hkd3, hkd4⟩ := own_cons hown (by omega)
  have hbt := But.of_grown hgr
  have GL3 : Below w.heap.size w w3 := (Below.laid GL _).grown hgr (by have := GL.size; simp; omega) (fun g hg => by simp [Value.ownBlock] at hg; omega)
  have GS3 := (GS.alloc _).but hbt (by simp [Value.ownBlock]; omega)
  have GR3 := (GR.alloc _).but hbt (by simp [Value.ownBlock]; omega)
  have GA3 := own_but (GO.aRow.alloc (.cells #[.int .i64 12] 3)) hbt (by intro b e; simp [Value.ownBlock] at e ⊢; omega)
  have GP3 := (GO.ok.keep (by (repeat' (first | (with_reducible exact Below.refl _ _) | (with_reducible assumption) | (with_reducible refine Below.next ?_ (by with_reducible assumption)) | (with_reducible refine Below.drew ?_) | (with_reducible refine Below.laid ?_ _) | (with_reducible refine Below.setCell ?_ ?_ _) | (with_reducible refine size_of ?_) | (with_reducible refine Nat.le_succ_of_le ?_) | go_size)))).but hbt (by intro x hx b e hC; have := (GO.far x hx b e).2.2; simp [Value.ownBlock] at this hC; omega)
  have GLf := below_set2 (GL3.setCell (p := ⟨w.heap.size, 1, none⟩) (Nat.le_refl _) (.slice (some ⟨gd, 0, none⟩) (c.length + 1) kd)) (show w.heap.size ≤ w.heap.size + 1 by omega) (.slice (some ⟨ga, 0, none⟩) l.length ka) (.slice (some ⟨gd, 0, none⟩) (c.length + 1) kd)
  have GRf := (GR3.far (p := ⟨w.heap.size, 1, none⟩) (by simp) (.slice (some ⟨gd, 0, none⟩) (c.length + 1) kd)).set2 (.slice (some ⟨ga, 0, none⟩) l.length ka) (.slice (some ⟨gd, 0, none⟩) (c.length + 1) kd)
  have GBf := (((But.refl (fun b => b = w.heap.size ∨ b = w.heap.size + 1) w3).set_ (p := ⟨w.heap.size, 1, none⟩) (.inl rfl) (.slice (some ⟨gd, 0, none⟩) (c.length + 1) kd)).set_ (p := ⟨w.heap.size + 1, 0, none⟩) (.inr rfl) (.slice (some ⟨ga, 0, none⟩) l.length ka)).set_ (p := ⟨w.heap.size + 1, 1, none⟩) (.inr rfl) (.slice (some ⟨gd, 0, none⟩) (c.length + 1) kd)
  have GAf := own_but GA3 GBf (by intro b e; simp [Value.ownBlock] at e ⊢; omega)
  have GCf := own_but hown GBf (by intro b e; simp [Value.ownBlock] at e ⊢; omega)
  have GPf := GP3.but GBf (by intro x hx b e; have := (GO.far x hx b e).1; omega)
  obtain ⟨⟨f0, f1⟩, f2, f3⟩ := GS3.cells2
  obtain ⟨⟨r0, r1⟩, r2, r3⟩ := GR3.cells2
  clear b0 b1 hbt hgr GA3 GP3 GBf hown GO GL GS GR
  go_wp2
  clear f0 f1 f2 f3 r0 r1 r2 r3 GS3 GR3
  revert GLf GRf GAf GCf GPf
  generalize World.setCell _ _ _ = Wf
  intro GLf GRf GAf GCf GPf
  obtain ⟨⟨e0, e1⟩, _⟩ := GRf.cells2
  refine bodyPost_ret (v := .tuple #[.agg #[.slice (some ⟨ga, 0, none⟩) l.length ka, .slice (some ⟨gd, 0, none⟩) (c.length + 1) kd], .nilIface]) (by simp [results, Tryz.results36, go_sem, e0, e1]) rfl ?_
  refine ⟨some ⟨ga, 0, none⟩, ka, some ⟨gd, 0, none⟩, kd, by simp [errV], GLf, ?_, ?_⟩
  · have := atoms_of_own GAf GPf
    rwa [hpl] at this
  · have := IsInts.of_own (l := c ++ [12]) (v := .slice (some ⟨gd, 0, none⟩) (c.length + 1) kd) (n := c.length + 1) (e := 3) (base := w1.heap.size) (w := Wf) (by simpa using GCf)
    simpa using this
end Go.Proofs.YtpkleioabinkkaaGreatDoor
