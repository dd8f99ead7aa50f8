/-
  THE WALK of vennlaw2.TurnSame.
-/
import Derived.Test.YtcbjmfljdmomhaaDoorTurnThings
import Derived.Test.YtcbjmfljdmomhaaDoorTurnNames
import Derived.Test.YtcbjmfljdmomhaaDoorVennTurnS
import Derived.Test.YtcbjmfljdmomhaaDoorFormHolds
import Derived.Test.YtcbjmfljdmomhaaDoorWays
import Derived.Test.YtcbjmfljdmomhaaDoorFields
import Derived.Test.YtcbjmfljdmomhaaDoorEql
import Derived.Test.YtcbjmfljdmomhaaDoorLawF
import Derived.Deep.DeepCutAuto
namespace Venn
theorem same_fact : renWErr ⟨1, 1, 0, 0⟩ 2 0 1 = 0 ∧ renWV ⟨1, 1, 0, 0⟩ 2 0 1 = ⟨1, 0, 0, 1⟩ := by
  have ho : onceV [2, 0, 1] = true := once_of (by decide)
  have h1 : renWErr ⟨1, 1, 0, 0⟩ 2 0 1 = 0 := by rw [renWErr, if_pos ho]; decide
  refine ⟨h1, ?_⟩
  rw [renWV, if_pos h1]
  rfl
end Venn
namespace Go.Proofs.YtcbjmfljdmomhaaDoor
open Go.RowKit

theorem fieldsV_eight2 (w : Venn.World) (hw : Venn.worldChk w = 0) : ∃ a0 a1 a2 a3 a4 a5 a6 a7, fieldsV w = [a0, a1, a2, a3, a4, a5, a6, a7] ∧ Venn.fieldsOf w = [a0, a1, a2, a3, a4, a5, a6, a7] := by
  obtain ⟨a0, a1, a2, a3, a4, a5, a6, a7, hx, _⟩ := Venn.of_allC (Venn.worldChk_iff.1 hw).1 (Venn.fieldsOf_mem hw)
  exact ⟨a0, a1, a2, a3, a4, a5, a6, a7, by rw [fieldsV, if_pos hw, hx], hx⟩
/-- What the two ways behind the other things have alike. -/
structure TsAt (w wx : World) (va vc n0 n1 n2 th a b d : Value) : Prop where
  below : Below w.heap.size w wx
  form : Blk wx w.heap.size 31 #[va, vc]
  names : Blk wx (w.heap.size + 1) 23 #[n0, n1, n2]
  world : Blk wx (w.heap.size + 1 + 1) 25 #[th, a, b, d]
theorem TsAt.keep {w wx wy : World} {va vc n0 n1 n2 th a b d : Value} (h : TsAt w wx va vc n0 n1 n2 th a b d) (hb : Below wx.heap.size wx wy) : TsAt w wy va vc n0 n1 n2 th a b d :=
  ⟨Below.next h.below hb, h.form.keep hb, h.names.keep hb, h.world.keep hb⟩

set_option maxHeartbeats 8000000 in
set_option maxRecDepth 100000 in
theorem turnSame_walk (sa sc v : Value) (l : List Venn.Atom) (c q : List Int) (n0 n1 n2 th a b d : Int) (w : World) (ha : IsAtoms w sa l) (hc : IsInts w sc c) (hq : IsInts w v q) (hk : KindsOk w) :
    Calls Tryd.prog 6 #[.agg #[sa, sc], .agg #[.int .i64 n0, .int .i64 n1, .int .i64 n2], .agg #[.int .i64 th, .int .i64 a, .int .i64 b, .int .i64 d], v] w (Keeps (.bool true) w) := by
  obtain ⟨A, cA, rfl⟩ := ha.slice
  obtain ⟨C, cC, rfl⟩ := hc.slice
  obtain ⟨Q, cQ, rfl⟩ := hq.slice
  have HA := Lib.hid ha
  have HC := Lib.hid hc
  have HQ := Lib.hid hq
  have HK := Lib.hid hk
  have HF1 := Lib.hid Venn.same_fact.1
  have HF2 := Lib.hid Venn.same_fact.2
  clear ha hc hq hk
  go_enter Tryd.func6, Tryd.ntmps6
  go_upto_region 1 with (fail)
  have HT : TsAt w (((w.alloc (.cells #[.slice A l.length cA, .slice C c.length cC] 31)).alloc (.cells #[.int .i64 n0, .int .i64 n1, .int .i64 n2] 23)).alloc (.cells #[.int .i64 th, .int .i64 a, .int .i64 b, .int .i64 d] 25)) (.slice A l.length cA) (.slice C c.length cC) (.int .i64 n0) (.int .i64 n1) (.int .i64 n2) (.int .i64 th) (.int .i64 a) (.int .i64 b) (.int .i64 d) :=
    ⟨(by (repeat' (first | (with_reducible exact Below.refl _ _) | (with_reducible assumption) | (with_reducible refine Below.next ?_ (by with_reducible assumption)) | (with_reducible refine Below.drew ?_) | (with_reducible refine Below.laid ?_ _) | (with_reducible refine Below.setCell ?_ ?_ _) | (with_reducible refine size_of ?_) | (with_reducible refine Nat.le_succ_of_le ?_) | go_size))), ((Blk.new _ _ _).alloc _).alloc _, (Blk.newAt (by simp) _ _).alloc _, Blk.newAt (by simp) _ _⟩
  revert HT
  generalize World.alloc _ _ = w1
  intro HT
  go_wp2_with fail
  refine (turn_World 1 1 0 0 2 0 1 _).mono ?_
  rintro e w2 ⟨rfl, hb2⟩
  rw [HF2.out, HF1.out, errV_zero rfl]
  simp only [worldV]
  have BX := Blk.new w2 25 #[.int .i64 1, .int .i64 0, .int .i64 0, .int .i64 1]
  replace HT := (HT.keep hb2).keep (Below.laid (Below.refl _ w2) (.cells #[.int .i64 1, .int .i64 0, .int .i64 0, .int .i64 1] 25))
  clear hb2
  go_upto_region 2 with (fail)
  revert HT BX
  generalize World.alloc _ _ = w3
  generalize w2.heap.size = X
  intro BX HT
  have x0 := BX.cell 1
  have x2 := BX.cell 3
  obtain ⟨⟨f0, f1⟩, _⟩ := HT.form.cells2
  have fl := HT.form.lt
  have p0 := HT.names.cell 0
  have p1 := HT.names.cell 1
  have p2 := HT.names.cell 2
  have pl := HT.names.lt
  obtain ⟨v0, v1, v2, v3⟩ := HT.world.cells4
  have vl := HT.world.lt
  go_wp2_with fail
  refine (form_Holds _ _ l c _ _ _ _ _ (HA.out.keep HT.below) (HC.out.keep HT.below) (HK.out.keep HT.below)).mono ?_
  rintro e w4 ⟨rfl, hb4⟩
  replace HT := HT.keep hb4
  clear BX x0 x2 hb4
  clear f0 f1 fl p0 p1 p2 pl v0 v1 v2 v3 vl
  by_cases h1 : ¬ Venn.formHoldsChk ⟨l, c⟩ ⟨th, a, b, d⟩ = 0
  · rw [errV_ne h1]
    generalize Venn.formHoldsV ⟨l, c⟩ ⟨th, a, b, d⟩ = hv
    clear h1
    go_wp2
    go_ret
    exact ⟨rfl, HT.below⟩
  replace h1 := Decidable.not_not.1 h1
  have hf : Venn.formChk ⟨l, c⟩ = 0 := by
    rw [Venn.formHoldsChk] at h1
    split at h1
    · assumption
    · contradiction
  have hw : Venn.worldChk ⟨th, a, b, d⟩ = 0 := by rwa [Venn.formHoldsChk, if_pos hf] at h1
  have hth := (Venn.worldChk_iff.1 hw).1
  rw [errV_zero h1, show Venn.formHoldsV ⟨l, c⟩ ⟨th, a, b, d⟩ = Venn.formTrue ⟨l, c⟩ ⟨th, a, b, d⟩ by rw [Venn.formHoldsV, if_pos h1]]
  clear h1
  have HTH := Lib.hid (fun (h : Venn.thingsErr ⟨th, a, b, d⟩ q = 0) => (by
    have e1 : (q.length : Int) = th ∧ Venn.onceV q = true := by
      rw [Venn.thingsErr, if_pos hw] at h
      split at h
      · split at h
        · exact ⟨by assumption, by assumption⟩
        · cases h
      · cases h
    have e2 := Venn.thingsW_right hw e1.2 e1.1
    have e3 := Venn.fields_things hw e1.2 e1.1
    obtain ⟨a0, a1, a2, a3, a4, a5, a6, a7, g1, g2⟩ := fieldsV_eight2 _ hw
    refine ⟨Venn.thingsW q ⟨th, a, b, d⟩, a0, a1, a2, a3, a4, a5, a6, a7, by rw [Venn.thingsV, if_pos h], e2, ?_, ?_, g1, ?_⟩
    · rw [Venn.formHoldsChk, if_pos hf, e2]
    · rw [Venn.formHoldsV, Venn.formHoldsChk, if_pos hf, e2, if_pos rfl, Venn.formTrue_things hf hw e1.2 e1.1]
    · rw [fieldsV, if_pos e2, e3, g2]
    : ∃ y : Venn.World, ∃ a0 a1 a2 a3 a4 a5 a6 a7 : Int, Venn.thingsV ⟨th, a, b, d⟩ q = y ∧ Venn.worldChk y = 0 ∧ Venn.formHoldsChk ⟨l, c⟩ y = 0 ∧ Venn.formHoldsV ⟨l, c⟩ y = Venn.formTrue ⟨l, c⟩ ⟨th, a, b, d⟩ ∧ fieldsV ⟨th, a, b, d⟩ = [a0, a1, a2, a3, a4, a5, a6, a7] ∧ fieldsV y = [a0, a1, a2, a3, a4, a5, a6, a7]))
  have HON := Lib.hid (fun (h : Venn.onceV [n0, n1, n2] = true) => (by
    have g := Venn.formChk_ren (Venn.once_in3 h) ⟨l, c⟩
    rw [hf] at g
    have gw := Venn.renW_right h hw
    have e1 : Venn.namesErr ⟨l, c⟩ n0 n1 n2 = 0 := by rw [Venn.namesErr, if_pos hf, if_pos h]
    have e2 : Venn.renWErr ⟨th, a, b, d⟩ n0 n1 n2 = 0 := by rw [Venn.renWErr, if_pos h, hw]
    refine ⟨Venn.renF n0 n1 n2 ⟨l, c⟩, Venn.renW n0 n1 ⟨th, a, b, d⟩, e1, by rw [Venn.namesV, if_pos e1], e2, by rw [Venn.renWV, if_pos e2], ?_, ?_, fun h4 => ?_, fun h4 => ?_⟩
    · rw [Venn.formHoldsChk, if_pos g, gw]
    · rw [Venn.formHoldsV, Venn.formHoldsChk, if_pos g, gw, if_pos rfl, Venn.formTrue_ren h _ hf]
    · rw [worldsVv, Venn.worlds_ren h hf hth h4, show Venn.worldsChk (Venn.renF n0 n1 n2 ⟨l, c⟩) th = 0 by rw [Venn.worldsChk, if_pos g, if_pos hth]]; rfl
    · rw [worldsVv, show Venn.worldsChk ⟨l, c⟩ th = 0 by rw [Venn.worldsChk, if_pos hf, if_pos hth]]; rfl
    : ∃ (g : Venn.Form) (y : Venn.World), Venn.namesErr ⟨l, c⟩ n0 n1 n2 = 0 ∧ Venn.namesV ⟨l, c⟩ n0 n1 n2 = g ∧ Venn.renWErr ⟨th, a, b, d⟩ n0 n1 n2 = 0 ∧ Venn.renWV ⟨th, a, b, d⟩ n0 n1 n2 = y ∧ Venn.formHoldsChk g y = 0 ∧ Venn.formHoldsV g y = Venn.formTrue ⟨l, c⟩ ⟨th, a, b, d⟩ ∧
      (th ≤ 4 → worldsVv g th = .tuple #[.int .i64 (Venn.worldsV ⟨l, c⟩ th), .nilIface]) ∧ (th ≤ 4 → worldsVv ⟨l, c⟩ th = .tuple #[.int .i64 (Venn.worldsV ⟨l, c⟩ th), .nilIface])))
  have HNO := Lib.hid (fun (h : ¬ Venn.onceV [n0, n1, n2] = true) => (⟨by rw [Venn.namesErr, if_pos hf, if_neg h], by rw [Venn.renWErr, if_neg h]⟩ : Venn.namesErr ⟨l, c⟩ n0 n1 n2 = 1 ∧ Venn.renWErr ⟨th, a, b, d⟩ n0 n1 n2 = 1))
  have HW0 := Lib.hid (errV_zero hw)
  clear hf hw hth
  generalize Venn.formTrue ⟨l, c⟩ ⟨th, a, b, d⟩ = V at HTH HON ⊢
  obtain ⟨⟨f0, f1⟩, _⟩ := HT.form.cells2
  have fl := HT.form.lt
  have p0 := HT.names.cell 0
  have p1 := HT.names.cell 1
  have p2 := HT.names.cell 2
  have pl := HT.names.lt
  obtain ⟨v0, v1, v2, v3⟩ := HT.world.cells4
  have vl := HT.world.lt
  go_wp2_with fail
  refine (turn_Things _ q th a b d _ (HQ.out.keep HT.below)).mono ?_
  rintro e w5 ⟨rfl, hb5⟩
  replace HT := HT.keep hb5
  clear hb5
  clear f0 f1 fl p0 p1 p2 pl v0 v1 v2 v3 vl
  obtain ⟨Y, hY⟩ : ∃ Y, Y = Venn.thingsV ⟨th, a, b, d⟩ q := ⟨_, rfl⟩
  obtain ⟨E, hE⟩ : ∃ E, E = Venn.thingsErr ⟨th, a, b, d⟩ q := ⟨_, rfl⟩
  rw [← hY, ← hE]
  rw [← hY, ← hE] at HTH
  obtain ⟨yt, ya, yb, yd⟩ := Y
  simp only [worldV]
  clear hY hE
  have BY := Blk.new w5 25 #[.int .i64 yt, .int .i64 ya, .int .i64 yb, .int .i64 yd]
  replace HT := HT.keep (Below.laid (Below.refl _ w5) (.cells #[.int .i64 yt, .int .i64 ya, .int .i64 yb, .int .i64 yd] 25))
  go_upto_region 8 with (fail)
  revert HT BY
  generalize World.alloc _ _ = w6
  generalize w5.heap.size = O
  intro BY HT
  by_cases hE : E = 0
  focus
      obtain ⟨y, a0, a1, a2, a3, a4, a5, a6, a7, ey, e1, e2, e3, e4, e5⟩ := HTH.out hE
      subst ey
      have H1 := Lib.hid (errV_zero e1)
      have H2 := Lib.hid (errV_zero e2)
      have H3 := Lib.hid e3
      have H4 := Lib.hid e4
      have H5 := Lib.hid e5
      subst hE
      rw [errV_zero rfl]
      clear HTH e1 e2 e3 e4 e5
      obtain ⟨⟨f0, f1⟩, _⟩ := HT.form.cells2
      obtain ⟨y0, y1, y2, y3⟩ := BY.cells4
      go_wp2_with fail
      refine (form_Holds _ _ l c _ _ _ _ _ (HA.out.keep HT.below) (HC.out.keep HT.below) (HK.out.keep HT.below)).mono ?_
      rintro e w7 ⟨rfl, hb7⟩
      rw [H2.out, H3.out]
      replace HT := HT.keep hb7
      replace BY := BY.keep hb7
      clear hb7 f0 f1 y0 y1 y2 y3
      obtain ⟨v0, v1, v2, v3⟩ := HT.world.cells4
      go_wp2_with fail
      refine (fields_Of _ _ _ _ _).mono ?_
      rintro e w8 ⟨rfl, hb8⟩
      rw [H4.out, HW0.out]
      simp only [cells, List.map]
      replace HT := HT.keep hb8
      replace BY := BY.keep hb8
      clear hb8 v0 v1 v2 v3
      obtain ⟨y0, y1, y2, y3⟩ := BY.cells4
      have yl := BY.lt
      go_wp2_with fail
      refine (fields_Of _ _ _ _ _).mono ?_
      rintro e w9 ⟨rfl, hb9⟩
      rw [H5.out, H1.out]
      simp only [cells, List.map]
      have hq9 : Below w8.heap.size w8 w9 := (by (repeat' (first | (with_reducible exact Below.refl _ _) | (with_reducible assumption) | (with_reducible refine Below.next ?_ (by with_reducible assumption)) | (with_reducible refine Below.drew ?_) | (with_reducible refine Below.laid ?_ _) | (with_reducible refine Below.setCell ?_ ?_ _) | (with_reducible refine size_of ?_) | (with_reducible refine Nat.le_succ_of_le ?_) | go_size)))
      have BG := (Blk.new w8 45 #[.int .i64 a0, .int .i64 a1, .int .i64 a2, .int .i64 a3, .int .i64 a4, .int .i64 a5, .int .i64 a6, .int .i64 a7]).keep hb9
      replace HT := HT.keep hq9
      clear hb9 hq9 y0 y1 y2 y3 yl BY
      have BG2 := BG.alloc (.cells #[.int .i64 a0, .int .i64 a1, .int .i64 a2, .int .i64 a3, .int .i64 a4, .int .i64 a5, .int .i64 a6, .int .i64 a7] 45)
      have BH := Blk.new w9 45 #[.int .i64 a0, .int .i64 a1, .int .i64 a2, .int .i64 a3, .int .i64 a4, .int .i64 a5, .int .i64 a6, .int .i64 a7]
      replace HT := HT.keep (Below.laid (Below.refl _ w9) (.cells #[.int .i64 a0, .int .i64 a1, .int .i64 a2, .int .i64 a3, .int .i64 a4, .int .i64 a5, .int .i64 a6, .int .i64 a7] 45))
      go_upto_region 12 with (fail)
      clear BG
      revert BG2 BH HT
      generalize World.alloc _ _ = wA
      intro BG2 BH HT
      obtain ⟨⟨g0, g1, g2, g3, g4, g5, g6, g7⟩, _⟩ := BG2.cells8
      obtain ⟨⟨h0, h1, h2, h3, h4, h5, h6, h7⟩, _⟩ := BH.cells8
      have hq8 := equal_counts a0 a1 a2 a3 a4 a5 a6 a7 wA
      go_upto_region 14 with (fail)
      clear g0 g1 g2 g3 g4 g5 g6 g7 h0 h1 h2 h3 h4 h5 h6 h7 hq8 BG2 BH H1 H2 H3 H4 H5
      obtain ⟨w7, rfl⟩ : ∃ w7 : World, w7 = wA := ⟨_, rfl⟩
  rotate_left
  focus
      rw [errV_ne hE]
      clear HTH hE BY
      go_upto_region 14 with (fail)
      obtain ⟨w7, rfl⟩ : ∃ w7 : World, w7 = w6 := ⟨_, rfl⟩
  all_goals
    clear HQ
    obtain ⟨⟨f0, f1⟩, _⟩ := HT.form.cells2
    have fl := HT.form.lt
    have p0 := HT.names.cell 0
    have p1 := HT.names.cell 1
    have p2 := HT.names.cell 2
    have pl := HT.names.lt
    obtain ⟨v0, v1, v2, v3⟩ := HT.world.cells4
    have vl := HT.world.lt
    go_wp2_with fail
    refine (turn_Names _ _ l c n0 n1 n2 _ (HA.out.keep HT.below) (HC.out.keep HT.below) (HK.out.keep HT.below)).mono ?_
    unfold NamesPost
    rintro e w8 ⟨A8, kA8, C8, kC8, rfl, hb8, hA8, hC8⟩
    replace HT := HT.keep hb8
    clear hb8
    clear f0 f1 fl p0 p1 p2 pl v0 v1 v2 v3 vl
    by_cases ho : ¬ Venn.onceV [n0, n1, n2] = true
    · obtain ⟨e1, e2⟩ := HNO.out ho
      have H2 := Lib.hid e2
      rw [e1, errV_ne (e := 1) (by decide)]
      clear ho e1 e2 HON HNO hA8
      generalize (Venn.namesV ⟨l, c⟩ n0 n1 n2).atoms.length = NA
      generalize (Venn.namesV ⟨l, c⟩ n0 n1 n2).code.length = NC
      obtain ⟨⟨f0, f1⟩, _⟩ := HT.form.cells2
      have fl := HT.form.lt
      have p0 := HT.names.cell 0
      have p1 := HT.names.cell 1
      have p2 := HT.names.cell 2
      have pl := HT.names.lt
      obtain ⟨v0, v1, v2, v3⟩ := HT.world.cells4
      have vl := HT.world.lt
      go_wp2_with fail
      refine (turn_World th a b d n0 n1 n2 _).mono ?_
      rintro e w9 ⟨rfl, hb9⟩
      rw [H2.out, errV_ne (e := 1) (by decide)]
      simp only [worldV]
      go_wp2
      go_ret
      exact ⟨rfl, Below.laid (Below.next (Below.laid HT.below _) hb9) _⟩
    replace ho := Decidable.not_not.1 ho
    obtain ⟨g, y, e1, e2, e3, e4, e5, e6, e7, e8⟩ := HON.out ho
    rw [e2] at hA8 hC8 ⊢
    rw [e1, errV_zero rfl]
    obtain ⟨gl, gc⟩ := g
    obtain ⟨yt, ya, yb, yd⟩ := y
    simp only at hA8 hC8 ⊢
    have H3 := Lib.hid (errV_zero e3)
    have H4 := Lib.hid e4
    have H5 := Lib.hid (errV_zero e5)
    have H6 := Lib.hid e6
    have H7 := Lib.hid e7
    have H8 := Lib.hid e8
    have HA8 := Lib.hid hA8
    have HC8 := Lib.hid hC8
    clear ho e1 e2 e3 e4 e5 e6 e7 e8 HON HNO hA8 hC8
    have BG := Blk.new w8 31 #[.slice A8 gl.length kA8, .slice C8 gc.length kC8]
    obtain ⟨⟨f0, f1⟩, _⟩ := HT.form.cells2
    have fl := HT.form.lt
    have p0 := HT.names.cell 0
    have p1 := HT.names.cell 1
    have p2 := HT.names.cell 2
    have pl := HT.names.lt
    obtain ⟨v0, v1, v2, v3⟩ := HT.world.cells4
    have vl := HT.world.lt
    go_wp2_with fail
    refine (turn_World th a b d n0 n1 n2 _).mono ?_
    rintro e w9 ⟨rfl, hb9⟩
    rw [H4.out, H3.out]
    simp only [worldV]
    have hq9 : Below w8.heap.size w8 w9 := (by (repeat' (first | (with_reducible exact Below.refl _ _) | (with_reducible assumption) | (with_reducible refine Below.next ?_ (by with_reducible assumption)) | (with_reducible refine Below.drew ?_) | (with_reducible refine Below.laid ?_ _) | (with_reducible refine Below.setCell ?_ ?_ _) | (with_reducible refine size_of ?_) | (with_reducible refine Nat.le_succ_of_le ?_) | go_size)))
    replace HT := HT.keep hq9
    replace BG := BG.keep hb9
    clear f0 f1 fl p0 p1 p2 pl v0 v1 v2 v3 vl
    have BZ := Blk.new w9 25 #[.int .i64 yt, .int .i64 ya, .int .i64 yb, .int .i64 yd]
    obtain ⟨⟨g0, g1⟩, _⟩ := BG.cells2
    have gl' := BG.lt
    obtain ⟨z0, z1, z2, z3⟩ := BZ.cells4
    go_wp2_with fail
    refine (form_Holds _ _ gl gc _ _ _ _ _ (HA8.out.keep (by (repeat' (first | (with_reducible exact Below.refl _ _) | (with_reducible assumption) | (with_reducible refine Below.next ?_ (by with_reducible assumption)) | (with_reducible refine Below.drew ?_) | (with_reducible refine Below.laid ?_ _) | (with_reducible refine Below.setCell ?_ ?_ _) | (with_reducible refine size_of ?_) | (with_reducible refine Nat.le_succ_of_le ?_) | go_size)))) (HC8.out.keep (by (repeat' (first | (with_reducible exact Below.refl _ _) | (with_reducible assumption) | (with_reducible refine Below.next ?_ (by with_reducible assumption)) | (with_reducible refine Below.drew ?_) | (with_reducible refine Below.laid ?_ _) | (with_reducible refine Below.setCell ?_ ?_ _) | (with_reducible refine size_of ?_) | (with_reducible refine Nat.le_succ_of_le ?_) | go_size)))) (HK.out.keep (Below.laid HT.below _))).mono ?_
    rintro e w10 ⟨rfl, hb10⟩
    rw [H5.out, H6.out]
    have hq10 : Below w9.heap.size w9 w10 := (by (repeat' (first | (with_reducible exact Below.refl _ _) | (with_reducible assumption) | (with_reducible refine Below.next ?_ (by with_reducible assumption)) | (with_reducible refine Below.drew ?_) | (with_reducible refine Below.laid ?_ _) | (with_reducible refine Below.setCell ?_ ?_ _) | (with_reducible refine size_of ?_) | (with_reducible refine Nat.le_succ_of_le ?_) | go_size)))
    replace HT := HT.keep hq10
    replace BG := BG.keep hq10
    have HB := Lib.hid (Below.next hq9 hq10)
    clear g0 g1 gl' z0 z1 z2 z3 BZ hb9 hb10 hq9 hq10
    obtain ⟨v0, v1, v2, v3⟩ := HT.world.cells4
    by_cases h4 : 4 < th
    · go_wp2
      go_ret
      exact ⟨rfl, HT.below⟩
    have E7 := Lib.hid (H7.out (by omega))
    have E8 := Lib.hid (H8.out (by omega))
    clear H7 H8
    obtain ⟨⟨f0, f1⟩, _⟩ := HT.form.cells2
    go_wp2_with fail
    refine (worlds_Of _ _ l c th _ (HA.out.keep HT.below) (HC.out.keep HT.below) (HK.out.keep HT.below)).mono ?_
    rintro e w11 ⟨rfl, hb11⟩
    rw [E8.out]
    replace HT := HT.keep hb11
    replace BG := BG.keep hb11
    clear v0 v1 v2 v3 f0 f1
    have v0 := HT.world.cell 0
    obtain ⟨⟨g0, g1⟩, _⟩ := BG.cells2
    go_wp2_with fail
    refine (worlds_Of _ _ gl gc th _ ((HA8.out.keep HB.out).keep hb11) ((HC8.out.keep HB.out).keep hb11) (HK.out.keep HT.below)).mono ?_
    rintro e w12 ⟨rfl, hb12⟩
    rw [E7.out]
    generalize Venn.worldsV ⟨l, c⟩ th = WV
    go_wp2
    go_ret
    exact ⟨rfl, Below.next HT.below hb12⟩
end Go.Proofs.YtcbjmfljdmomhaaDoor
