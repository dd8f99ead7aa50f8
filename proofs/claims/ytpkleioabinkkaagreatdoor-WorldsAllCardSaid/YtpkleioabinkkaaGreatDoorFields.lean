/-
  THE WALKS of fields.In, fields.All, fields.Of.
-/
import Derived.Test.YtpkleioabinkkaaGreatDoorFitG
import Derived.Test.YtpkleioabinkkaaGreatDoorVennP2
import Derived.Test.YtpkleioabinkkaaGreatDoorSetsT
namespace Go.Proofs.YtpkleioabinkkaaGreatDoor
open Go.RowKit

theorem and_bit : ∀ (s : Fin 64) (i : Fin 6), bits .and .i64 (((s.val : Nat) : Int) / 2 ^ i.val) 1 = Venn.toI (Venn.bit ((s.val : Nat) : Int) i.val) := by decide +kernel
theorem and_bit' {s : Int} (hs : 0 ≤ s ∧ s ≤ 63) {i : Nat} (hi : i < 6) : bits .and .i64 (s / 2 ^ i) 1 = Venn.toI (Venn.bit s i) := by
  obtain ⟨S, rfl⟩ := Int.eq_ofNat_of_zero_le hs.1
  exact and_bit ⟨S, by omega⟩ ⟨i, hi⟩
theorem or_three : ∀ (x y z : Bool), bits .or .i64 (bits .or .i64 (bits .or .i64 0 (wrap64 (Venn.toI x))) (wrap64 (Venn.toI y * 2))) (wrap64 (Venn.toI z * 4)) = (((if x = true then 1 else 0) + (if y = true then 2 else 0) + (if z = true then 4 else 0) : Nat) : Int) := by decide +kernel

set_option maxHeartbeats 1000000 in
set_option maxRecDepth 100000 in
theorem fields_In (th a b c : Int) (i : Nat) (w : World) (hw : Venn.worldChk ⟨th, a, b, c⟩ = 0) (hi : (i : Int) < th) :
    Calls Tryz.prog 102 #[.agg #[.int .i64 th, .int .i64 a, .int .i64 b, .int .i64 c], .int .i64 i] w (Keeps (.int .i64 (Venn.fieldIn ⟨th, a, b, c⟩ i : Nat)) w) := by
  obtain ⟨h0, ha, hb, hc⟩ := Venn.worldChk_iff.1 hw
  have h6 : th ≤ 6 := by have := h0; simp only [Venn.things, Bool.and_eq_true, decide_eq_true_eq] at this; exact this.2
  have E1 := and_bit' (setChk_63 ha) (show i < 6 by omega)
  have E2 := and_bit' (setChk_63 hb) (show i < 6 by omega)
  have E3 := and_bit' (setChk_63 hc) (show i < 6 by omega)
  have HE := Lib.hid (And.intro E1 (And.intro E2 E3))
  have hi6 : (i : Int) ≤ 5 := by omega
  clear hw ha hb hc E1 E2 E3
  have i0 := fun W => idx3_0 a b c W
  have i1 := fun W => idx3_1 a b c W
  have i2 := fun W => idx3_2 a b c W
  go_enter Tryz.func102, Tryz.ntmps102
  go_wp2
  refine wp_loop_rounds 4 ?_
  rw [rounds_succ]
  have j0 := idx3_0 a b c (w.alloc (.cells #[.int .i64 th, .int .i64 a, .int .i64 b, .int .i64 c] 28))
  have j1 := idx3_1 a b c (w.alloc (.cells #[.int .i64 th, .int .i64 a, .int .i64 b, .int .i64 c] 28))
  have j2 := idx3_2 a b c (w.alloc (.cells #[.int .i64 th, .int .i64 a, .int .i64 b, .int .i64 c] 28))
  go_wp2
  rw [rounds_succ]
  go_wp2
  rw [rounds_succ]
  go_wp2
  rw [rounds_succ]
  go_wp2
  go_ret
  refine ⟨ret_int ?_, by (repeat' (first | (with_reducible exact Below.refl _ _) | (with_reducible assumption) | (with_reducible refine Below.next ?_ (by with_reducible assumption)) | (with_reducible refine Below.drew ?_) | (with_reducible refine Below.laid ?_ _) | (with_reducible refine Below.setCell ?_ ?_ _) | (with_reducible refine size_of ?_) | (with_reducible refine Nat.le_succ_of_le ?_) | go_size))⟩
  rw [HE.out.1, HE.out.2.1, HE.out.2.2, or_three]
  rfl

/-- So many in each field, of the first n things. -/
abbrev fcells (W : Venn.World) (n : Nat) : Array Value := #[.int .i64 (Venn.fieldsAt W n 0), .int .i64 (Venn.fieldsAt W n 1), .int .i64 (Venn.fieldsAt W n 2), .int .i64 (Venn.fieldsAt W n 3), .int .i64 (Venn.fieldsAt W n 4), .int .i64 (Venn.fieldsAt W n 5), .int .i64 (Venn.fieldsAt W n 6), .int .i64 (Venn.fieldsAt W n 7)]
theorem fcells_at (W : Venn.World) (n : Nat) {f : Nat} (hf : f < 8) : (fcells W n)[f]? = some (.int .i64 (Venn.fieldsAt W n f)) := by
  rcases (by omega : f = 0 ∨ f = 1 ∨ f = 2 ∨ f = 3 ∨ f = 4 ∨ f = 5 ∨ f = 6 ∨ f = 7) with rfl | rfl | rfl | rfl | rfl | rfl | rfl | rfl
  all_goals rfl
theorem fcells_step (W : Venn.World) (n : Nat) : (fcells W n).setIfInBounds (Venn.fieldIn W n) (.int .i64 (Venn.fieldsAt W n (Venn.fieldIn W n) + 1)) = fcells W (n + 1) := by
  have hf := Venn.fieldIn_lt W n
  have h : ∀ g, Venn.fieldsAt W (n + 1) g = Venn.fieldsAt W n g + (if Venn.fieldIn W n = g then 1 else 0) := fun g => rfl
  unfold fcells
  simp only [h]
  generalize Venn.fieldIn W n = f at hf
  rcases (by omega : f = 0 ∨ f = 1 ∨ f = 2 ∨ f = 3 ∨ f = 4 ∨ f = 5 ∨ f = 6 ∨ f = 7) with rfl | rfl | rfl | rfl | rfl | rfl | rfl | rfl
  all_goals simp

set_option maxHeartbeats 2000000 in
set_option maxRecDepth 100000 in
theorem fields_All (th a b c : Int) (w : World) (hw : Venn.worldChk ⟨th, a, b, c⟩ = 0) :
    Calls Tryz.prog 86 #[.agg #[.int .i64 th, .int .i64 a, .int .i64 b, .int .i64 c]] w (Keeps (.agg (cells (Venn.fieldsOf ⟨th, a, b, c⟩))) w) := by
  have HW := Lib.hid hw
  obtain ⟨h0, _⟩ := Venn.worldChk_iff.1 hw
  have h6 : 0 ≤ th ∧ th ≤ 6 := by have := h0; simpa only [Venn.things, Bool.and_eq_true, decide_eq_true_eq] using this
  clear h0 hw
  obtain ⟨T, rfl⟩ := Int.eq_ofNat_of_zero_le h6.1
  obtain ⟨E, hE⟩ : ∃ E, E = Value.agg (cells (Venn.fieldsOf ⟨T, a, b, c⟩)) := ⟨_, rfl⟩
  rw [← hE]
  have HE := Lib.hid (show E = .agg (fcells ⟨T, a, b, c⟩ T) from hE)
  clear hE
  go_enter Tryz.func86, Tryz.ntmps86
  go_wp2
  go_loopw [7] (fun i wr => ∃ n : Nat, n ≤ T ∧ i = .int .i64 n ∧ Below w.heap.size w wr ∧ Blk wr w.heap.size 28 #[.int .i64 T, .int .i64 a, .int .i64 b, .int .i64 c] ∧ Blk wr (w.heap.size + 1) 77 zero8 ∧ Blk wr (w.heap.size + 1 + 1) 77 (fcells ⟨T, a, b, c⟩ n))
    (fun i _ => T - (intOf i).toNat)
  case atStart => exact ⟨0, Nat.zero_le _, rfl, by (repeat' (first | (with_reducible exact Below.refl _ _) | (with_reducible assumption) | (with_reducible refine Below.next ?_ (by with_reducible assumption)) | (with_reducible refine Below.drew ?_) | (with_reducible refine Below.laid ?_ _) | (with_reducible refine Below.setCell ?_ ?_ _) | (with_reducible refine size_of ?_) | (with_reducible refine Nat.le_succ_of_le ?_) | go_size)), ((Blk.new _ _ _).alloc _).alloc _, (Blk.newAt (by simp) _ _).alloc _, Blk.newAt (by simp) _ _⟩
  case round =>
    obtain ⟨n, hn, rfl, hb, hB0, hB1, hB2⟩ := hrel
    obtain ⟨wo, rfl⟩ : ∃ wo : World, wo = wr := ⟨_, rfl⟩
    obtain ⟨c0, c1, c2, c3⟩ := hB0.cells4
    have hl0 := hB0.lt
    have hl2 := hB2.lt
    by_cases hlt : n < T
    · have hk1 : (n : Int) < (T : Int) := by omega
      have hfr := Venn.fieldsAt_range ⟨T, a, b, c⟩ n
      have hf := Venn.fieldIn_lt ⟨T, a, b, c⟩ n
      have HST := Lib.hid (fcells_step ⟨T, a, b, c⟩ n)
      have HAT := Lib.hid (fcells_at ⟨T, a, b, c⟩ n hf)
      have hfrf := hfr (Venn.fieldIn ⟨T, a, b, c⟩ n)
      have HIN := Lib.hid (fun W => fields_In T a b c n W HW.out hk1)
      have HNX := Lib.hid (show ∀ Wx : World, Blk Wx (w.heap.size + 1 + 1) 77 ((fcells ⟨T, a, b, c⟩ n).setIfInBounds (Venn.fieldIn ⟨T, a, b, c⟩ n) (.int .i64 (Venn.fieldsAt ⟨T, a, b, c⟩ n (Venn.fieldIn ⟨T, a, b, c⟩ n) + 1))) → Blk Wx (w.heap.size + 1 + 1) 77 (fcells ⟨T, a, b, c⟩ (n + 1)) from fun Wx h => by rw [← HST.out]; exact h)
      clear hfr HST
      have HCELL : ∀ Wx : World, Blk Wx (w.heap.size + 1 + 1) 77 (fcells ⟨T, a, b, c⟩ n) → Wx.cell? ⟨w.heap.size + 1 + 1, Venn.fieldIn ⟨T, a, b, c⟩ n, none⟩ = some (.int .i64 (Venn.fieldsAt ⟨T, a, b, c⟩ n (Venn.fieldIn ⟨T, a, b, c⟩ n))) := fun Wx h => (h.cell _).trans HAT.out
      have HCL := Lib.hid HCELL
      clear HCELL
      generalize Venn.fieldsAt ⟨T, a, b, c⟩ n (Venn.fieldIn ⟨T, a, b, c⟩ n) = V at HNX HCL hfrf HAT
      generalize Venn.fieldIn ⟨T, a, b, c⟩ n = f at HNX HCL hf HIN HAT
      have hwr : IntKind.i64.wrap (V + 1) = V + 1 := IntWalk.i64_in _ (by omega)
      have hf1 : (f : Int) < 8 := by omega
      have hf0 : (0 : Int) ≤ (f : Int) := by omega
      go_wp2_with (go_at_call 102; refine (HIN.out _).mono ?_; rintro e w1 ⟨rfl, hb1⟩; have B2 := hB2.keep hb1; have e8 := HCL.out _ B2; have f8 := B2.frozen f)
      go_roundw
      case rel =>
        refine ⟨n + 1, by omega, by go_num, ?_, ?_, ?_, ?_⟩
        · exact (show Below w.heap.size w w1 by (repeat' (first | (with_reducible exact Below.refl _ _) | (with_reducible assumption) | (with_reducible refine Below.next ?_ (by with_reducible assumption)) | (with_reducible refine Below.drew ?_) | (with_reducible refine Below.laid ?_ _) | (with_reducible refine Below.setCell ?_ ?_ _) | (with_reducible refine size_of ?_) | (with_reducible refine Nat.le_succ_of_le ?_) | go_size))).setCell (p := ⟨w.heap.size + 1 + 1, f, none⟩) (by show w.heap.size ≤ w.heap.size + 1 + 1; omega) _
        · exact (hB0.keep hb1).far (by simp; omega) _
        · exact (hB1.keep hb1).far (by simp) _
        · exact HNX.out _ (B2.set_ f _)
      case measure => simp [intOf]; omega
    · have hnT : n = T := by omega
      subst hnT
      have hk1 : ¬ (n : Int) < (n : Int) := by omega
      have HV := Lib.hid HE.out
      clear HE
      unfold fcells at hB2 HV
      generalize Venn.fieldsAt ⟨n, a, b, c⟩ n 0 = y0 at hB2 HV
      generalize Venn.fieldsAt ⟨n, a, b, c⟩ n 1 = y1 at hB2 HV
      generalize Venn.fieldsAt ⟨n, a, b, c⟩ n 2 = y2 at hB2 HV
      generalize Venn.fieldsAt ⟨n, a, b, c⟩ n 3 = y3 at hB2 HV
      generalize Venn.fieldsAt ⟨n, a, b, c⟩ n 4 = y4 at hB2 HV
      generalize Venn.fieldsAt ⟨n, a, b, c⟩ n 5 = y5 at hB2 HV
      generalize Venn.fieldsAt ⟨n, a, b, c⟩ n 6 = y6 at hB2 HV
      generalize Venn.fieldsAt ⟨n, a, b, c⟩ n 7 = y7 at hB2 HV
      obtain ⟨⟨d0, d1, d2, d3, d4, d5, d6, d7⟩, _⟩ := hB2.cells8
      obtain ⟨⟨g0, g1, g2, g3, g4, g5, g6, g7⟩, e0, e1, e2, e3, e4, e5, e6, e7⟩ := hB1.cells8
      go_wp2
      have G := hB1.set8 (.int .i64 y0) (.int .i64 y1) (.int .i64 y2) (.int .i64 y3) (.int .i64 y4) (.int .i64 y5) (.int .i64 y6) (.int .i64 y7)
      have GL := below_set8 hb (show w.heap.size ≤ w.heap.size + 1 by omega) (.int .i64 y0) (.int .i64 y1) (.int .i64 y2) (.int .i64 y3) (.int .i64 y4) (.int .i64 y5) (.int .i64 y6) (.int .i64 y7)
      clear d0 d1 d2 d3 d4 d5 d6 d7 e0 e1 e2 e3 e4 e5 e6 e7 g0 g1 g2 g3 g4 g5 g6 g7
      revert G GL
      generalize World.setCell _ _ _ = Wf
      intro G GL
      obtain ⟨⟨d0, d1, d2, d3, d4, d5, d6, d7⟩, _⟩ := G.cells8
      exact bodyPost_ret (v := .agg #[.int .i64 y0, .int .i64 y1, .int .i64 y2, .int .i64 y3, .int .i64 y4, .int .i64 y5, .int .i64 y6, .int .i64 y7]) (by simp [results, Tryz.results86, go_sem, d0, d1, d2, d3, d4, d5, d6, d7]) rfl ⟨congrArg Ending.returned HV.out.symm, GL⟩

def fieldsV (W : Venn.World) : List Int := if Venn.worldChk W = 0 then Venn.fieldsOf W else [0, 0, 0, 0, 0, 0, 0, 0]
theorem boxes48 {w w1 : World} {tA tB : TypeId} {cs ds : Array Value} (hb : Below ((w.alloc (.cells cs tA)).alloc (.cells ds tB)).heap.size ((w.alloc (.cells cs tA)).alloc (.cells ds tB)) w1) :
    Blk w1 w.heap.size tA cs ∧ Blk w1 (w.heap.size + 1) tB ds := ⟨((Blk.new w _ _).alloc _).keep hb, (Blk.newAt (by simp) _ _).keep hb⟩
set_option maxHeartbeats 2000000 in
set_option maxRecDepth 100000 in
theorem fields_Of (th a b c : Int) (w : World) :
    Calls Tryz.prog 64 #[.agg #[.int .i64 th, .int .i64 a, .int .i64 b, .int .i64 c]] w (Keeps (.tuple #[.agg (cells (fieldsV ⟨th, a, b, c⟩)), errV (Venn.worldChk ⟨th, a, b, c⟩)]) w) := by
  by_cases h : Venn.worldChk ⟨th, a, b, c⟩ = 0
  · have HW := Lib.hid h
    have HX := Lib.hid (errV_zero h)
    rw [fieldsV, if_pos h, HX.out]
    obtain ⟨y0, y1, y2, y3, y4, y5, y6, y7, hy⟩ : ∃ y0 y1 y2 y3 y4 y5 y6 y7 : Int, Venn.fieldsOf ⟨th, a, b, c⟩ = [y0, y1, y2, y3, y4, y5, y6, y7] := ⟨_, _, _, _, _, _, _, _, rfl⟩
    have HAL := Lib.hid (fun W => fields_All th a b c W h)
    rw [hy] at HAL ⊢
    clear h hy
    simp only [cells, List.map] at HAL ⊢
    go_enter Tryz.func64, Tryz.ntmps64
    go_wp2_with (first
      | (go_at_call 51; refine (term_World _ _ _ _ _).mono ?_; rintro e w1 ⟨rfl, hb1⟩; rw [HX.out]; obtain ⟨BW, BZ⟩ := boxes48 hb1; obtain ⟨c0, c1, c2, c3⟩ := BW.cells4)
      | (go_at_call 86; refine (HAL.out _).mono ?_; rintro e w2 ⟨rfl, hb2⟩; obtain ⟨⟨g0, g1, g2, g3, g4, g5, g6, g7⟩, e0, e1, e2, e3, e4, e5, e6, e7⟩ := (BZ.keep hb2).cells8))
    have G := (BZ.keep hb2).set8 (.int .i64 y0) (.int .i64 y1) (.int .i64 y2) (.int .i64 y3) (.int .i64 y4) (.int .i64 y5) (.int .i64 y6) (.int .i64 y7)
    have GL := below_set8 (show Below w.heap.size w w2 by (repeat' (first | (with_reducible exact Below.refl _ _) | (with_reducible assumption) | (with_reducible refine Below.next ?_ (by with_reducible assumption)) | (with_reducible refine Below.drew ?_) | (with_reducible refine Below.laid ?_ _) | (with_reducible refine Below.setCell ?_ ?_ _) | (with_reducible refine size_of ?_) | (with_reducible refine Nat.le_succ_of_le ?_) | go_size))) (show w.heap.size ≤ w.heap.size + 1 by omega) (.int .i64 y0) (.int .i64 y1) (.int .i64 y2) (.int .i64 y3) (.int .i64 y4) (.int .i64 y5) (.int .i64 y6) (.int .i64 y7)
    clear e0 e1 e2 e3 e4 e5 e6 e7 g0 g1 g2 g3 g4 g5 g6 g7
    revert G GL
    generalize World.setCell _ _ _ = Wf
    intro G GL
    obtain ⟨⟨d0, d1, d2, d3, d4, d5, d6, d7⟩, _⟩ := G.cells8
    exact bodyPost_ret (v := .tuple #[.agg #[.int .i64 y0, .int .i64 y1, .int .i64 y2, .int .i64 y3, .int .i64 y4, .int .i64 y5, .int .i64 y6, .int .i64 y7], .nilIface]) (by simp [results, Tryz.results64, go_sem, d0, d1, d2, d3, d4, d5, d6, d7]) rfl ⟨rfl, GL⟩
  · have HX := Lib.hid (errV_ne h)
    rw [fieldsV, if_neg h, HX.out]
    clear h
    simp only [cells, List.map]
    go_enter Tryz.func64, Tryz.ntmps64
    go_wp2_with (go_at_call 51; refine (term_World _ _ _ _ _).mono ?_; rintro e w1 ⟨rfl, hb1⟩; rw [HX.out]; obtain ⟨BW, BZ⟩ := boxes48 hb1; obtain ⟨⟨g0, g1, g2, g3, g4, g5, g6, g7⟩, e0, e1, e2, e3, e4, e5, e6, e7⟩ := BZ.cells8)
    have G := BZ.set8 (.int .i64 0) (.int .i64 0) (.int .i64 0) (.int .i64 0) (.int .i64 0) (.int .i64 0) (.int .i64 0) (.int .i64 0)
    have GL := below_set8 (show Below w.heap.size w w1 by (repeat' (first | (with_reducible exact Below.refl _ _) | (with_reducible assumption) | (with_reducible refine Below.next ?_ (by with_reducible assumption)) | (with_reducible refine Below.drew ?_) | (with_reducible refine Below.laid ?_ _) | (with_reducible refine Below.setCell ?_ ?_ _) | (with_reducible refine size_of ?_) | (with_reducible refine Nat.le_succ_of_le ?_) | go_size))) (show w.heap.size ≤ w.heap.size + 1 by omega) (.int .i64 0) (.int .i64 0) (.int .i64 0) (.int .i64 0) (.int .i64 0) (.int .i64 0) (.int .i64 0) (.int .i64 0)
    clear e0 e1 e2 e3 e4 e5 e6 e7 g0 g1 g2 g3 g4 g5 g6 g7
    revert G GL
    generalize World.setCell _ _ _ = Wf
    intro G GL
    obtain ⟨⟨d0, d1, d2, d3, d4, d5, d6, d7⟩, _⟩ := G.cells8
    exact bodyPost_ret (v := .tuple #[.agg zero8, .iface 86 (.int .i64 (Venn.worldChk ⟨th, a, b, c⟩))]) (by simp [results, Tryz.results64, go_sem, d0, d1, d2, d3, d4, d5, d6, d7]) rfl ⟨rfl, GL⟩
end Go.Proofs.YtpkleioabinkkaaGreatDoor
