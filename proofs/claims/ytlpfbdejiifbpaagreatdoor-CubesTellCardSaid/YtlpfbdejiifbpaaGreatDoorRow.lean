/-
  THE WALKS of rows.Row, rows.Of.
-/
import Derived.Test.YtlpfbdejiifbpaaGreatDoorRowTimes
import Derived.Test.YtlpfbdejiifbpaaGreatDoorSetsT
import Derived.Test.YtlpfbdejiifbpaaGreatDoorAtomT
import Derived.Deep.RegionHeld3
import Derived.Deep.DeepCutAuto
namespace Go.Proofs.YtlpfbdejiifbpaaGreatDoor
open Go.RowKit

theorem Blk.cells9 {w : World} {g : Nat} {t : TypeId} {x0 x1 x2 x3 x4 x5 x6 x7 x8 : Value} (h : Blk w g t #[x0, x1, x2, x3, x4, x5, x6, x7, x8]) :
    (w.cell? ⟨g, 0, none⟩ = some x0 ∧ w.cell? ⟨g, 1, none⟩ = some x1 ∧ w.cell? ⟨g, 2, none⟩ = some x2 ∧ w.cell? ⟨g, 3, none⟩ = some x3 ∧ w.cell? ⟨g, 4, none⟩ = some x4 ∧ w.cell? ⟨g, 5, none⟩ = some x5 ∧ w.cell? ⟨g, 6, none⟩ = some x6 ∧ w.cell? ⟨g, 7, none⟩ = some x7 ∧ w.cell? ⟨g, 8, none⟩ = some x8) ∧
    (w.frozen? ⟨g, 0, none⟩ = false ∧ w.frozen? ⟨g, 1, none⟩ = false ∧ w.frozen? ⟨g, 2, none⟩ = false ∧ w.frozen? ⟨g, 3, none⟩ = false ∧ w.frozen? ⟨g, 4, none⟩ = false ∧ w.frozen? ⟨g, 5, none⟩ = false ∧ w.frozen? ⟨g, 6, none⟩ = false ∧ w.frozen? ⟨g, 7, none⟩ = false ∧ w.frozen? ⟨g, 8, none⟩ = false) :=
  ⟨⟨h.cell 0, h.cell 1, h.cell 2, h.cell 3, h.cell 4, h.cell 5, h.cell 6, h.cell 7, h.cell 8⟩, h.frozen 0, h.frozen 1, h.frozen 2, h.frozen 3, h.frozen 4, h.frozen 5, h.frozen 6, h.frozen 7, h.frozen 8⟩
theorem below_set9 {B : Nat} {a w : World} (h : Below B a w) {g : Nat} (hg : B ≤ g) (x0 x1 x2 x3 x4 x5 x6 x7 x8 : Value) :
    Below B a (((((((((w.setCell ⟨g, 0, none⟩ x0).setCell ⟨g, 1, none⟩ x1).setCell ⟨g, 2, none⟩ x2).setCell ⟨g, 3, none⟩ x3).setCell ⟨g, 4, none⟩ x4).setCell ⟨g, 5, none⟩ x5).setCell ⟨g, 6, none⟩ x6).setCell ⟨g, 7, none⟩ x7).setCell ⟨g, 8, none⟩ x8) :=
  (below_set8 h hg x0 x1 x2 x3 x4 x5 x6 x7).setCell (p := ⟨g, 8, none⟩) hg _
/-- A new row's nine cells. -/
abbrev zero9 : Array Value := #[.int .i64 0, .int .i64 0, .int .i64 0, .int .i64 0, .int .i64 0, .int .i64 0, .int .i64 0, .int .i64 0, .int .i64 0]
abbrev row9 (what m tm n : Int) : Array Value := #[.int .i64 (Venn.timesAt what m tm 0), .int .i64 (Venn.timesAt what m tm 1), .int .i64 (Venn.timesAt what m tm 2), .int .i64 (Venn.timesAt what m tm 3), .int .i64 (Venn.timesAt what m tm 4), .int .i64 (Venn.timesAt what m tm 5), .int .i64 (Venn.timesAt what m tm 6), .int .i64 (Venn.timesAt what m tm 7), .int .i64 n]

theorem Blk.far9 {w : World} {g : Nat} {t : TypeId} {cs : Array Value} (h : Blk w g t cs) {p : Nat} (hp : g ≠ p) (x0 x1 x2 x3 x4 x5 x6 x7 x8 : Value) :
    Blk (((((((((w.setCell ⟨p, 0, none⟩ x0).setCell ⟨p, 1, none⟩ x1).setCell ⟨p, 2, none⟩ x2).setCell ⟨p, 3, none⟩ x3).setCell ⟨p, 4, none⟩ x4).setCell ⟨p, 5, none⟩ x5).setCell ⟨p, 6, none⟩ x6).setCell ⟨p, 7, none⟩ x7).setCell ⟨p, 8, none⟩ x8) g t cs :=
  ((((((((h.far (p := ⟨p, 0, none⟩) hp _).far (p := ⟨p, 1, none⟩) hp _).far (p := ⟨p, 2, none⟩) hp _).far (p := ⟨p, 3, none⟩) hp _).far (p := ⟨p, 4, none⟩) hp _).far (p := ⟨p, 5, none⟩) hp _).far (p := ⟨p, 6, none⟩) hp _).far (p := ⟨p, 7, none⟩) hp _).far (p := ⟨p, 8, none⟩) hp _
theorem Blk.set9 {w : World} {g : Nat} {t : TypeId} {y0 y1 y2 y3 y4 y5 y6 y7 y8 : Value} (h : Blk w g t #[y0, y1, y2, y3, y4, y5, y6, y7, y8]) (x0 x1 x2 x3 x4 x5 x6 x7 x8 : Value) :
    Blk (((((((((w.setCell ⟨g, 0, none⟩ x0).setCell ⟨g, 1, none⟩ x1).setCell ⟨g, 2, none⟩ x2).setCell ⟨g, 3, none⟩ x3).setCell ⟨g, 4, none⟩ x4).setCell ⟨g, 5, none⟩ x5).setCell ⟨g, 6, none⟩ x6).setCell ⟨g, 7, none⟩ x7).setCell ⟨g, 8, none⟩ x8) g t #[x0, x1, x2, x3, x4, x5, x6, x7, x8] := by
  have := ((((((((h.set_ 0 x0).set_ 1 x1).set_ 2 x2).set_ 3 x3).set_ 4 x4).set_ 5 x5).set_ 6 x6).set_ 7 x7).set_ 8 x8
  have e : ((((((((#[y0, y1, y2, y3, y4, y5, y6, y7, y8].setIfInBounds 0 x0).setIfInBounds 1 x1).setIfInBounds 2 x2).setIfInBounds 3 x3).setIfInBounds 4 x4).setIfInBounds 5 x5).setIfInBounds 6 x6).setIfInBounds 7 x7).setIfInBounds 8 x8 = #[x0, x1, x2, x3, x4, x5, x6, x7, x8] := by simp
  rw [e] at this
  exact this
def negC (x : Nat → Int) (m : Int) (k : Nat) : Array Value := #[.int .i64 (if 0 < k then -x 0 else x 0), .int .i64 (if 1 < k then -x 1 else x 1), .int .i64 (if 2 < k then -x 2 else x 2), .int .i64 (if 3 < k then -x 3 else x 3), .int .i64 (if 4 < k then -x 4 else x 4), .int .i64 (if 5 < k then -x 5 else x 5), .int .i64 (if 6 < k then -x 6 else x 6), .int .i64 (if 7 < k then -x 7 else x 7), .int .i64 m]
theorem negC_at (x : Nat → Int) (m : Int) (k : Nat) (hk : k < 8) : (negC x m k)[k]? = some (.int .i64 (x k)) := by
  rcases (by omega : k = 0 ∨ k = 1 ∨ k = 2 ∨ k = 3 ∨ k = 4 ∨ k = 5 ∨ k = 6 ∨ k = 7) with rfl | rfl | rfl | rfl | rfl | rfl | rfl | rfl
  all_goals simp [negC]
theorem negC_set (x : Nat → Int) (m : Int) (k : Nat) (hk : k < 8) : (negC x m k).setIfInBounds k (.int .i64 (-x k)) = negC x m (k + 1) := by
  rcases (by omega : k = 0 ∨ k = 1 ∨ k = 2 ∨ k = 3 ∨ k = 4 ∨ k = 5 ∨ k = 6 ∨ k = 7) with rfl | rfl | rfl | rfl | rfl | rfl | rfl | rfl
  all_goals simp [negC]
theorem negC_8 (x : Nat → Int) (m : Int) : negC x m 8 = #[.int .i64 (-x 0), .int .i64 (-x 1), .int .i64 (-x 2), .int .i64 (-x 3), .int .i64 (-x 4), .int .i64 (-x 5), .int .i64 (-x 6), .int .i64 (-x 7), .int .i64 m] := by
  simp [negC]
theorem negC_0 (what m tm n : Int) : row9 what m tm n = negC (Venn.timesAt what m tm) n 0 := by
  simp [negC]
/-- A row as a value. -/
def rowV (a : Venn.Atom) (h : Bool) : Value := .agg #[.int .i64 (Venn.rowT a h 0), .int .i64 (Venn.rowT a h 1), .int .i64 (Venn.rowT a h 2), .int .i64 (Venn.rowT a h 3), .int .i64 (Venn.rowT a h 4), .int .i64 (Venn.rowT a h 5), .int .i64 (Venn.rowT a h 6), .int .i64 (Venn.rowT a h 7), .int .i64 (Venn.rowM a h)]
set_option maxHeartbeats 1000000 in
set_option maxRecDepth 100000 in
theorem rows_Row (what n : Int) (sv tv : Value) (s t : List Int) (holds : Bool) (w : World) (hs : IsInts w sv s) (ht : IsInts w tv t) (hc : Venn.atomChk ⟨what, s, t, n⟩ = 0) :
    Calls Tryz.prog 82 #[.agg #[.int .i64 what, sv, tv, .int .i64 n], .bool holds] w (Keeps (rowV ⟨what, s, t, n⟩ holds) w) := by
  obtain ⟨q1, q5, hcs, qt, qn, q20, q20', _⟩ := Venn.atomChk_parts hc
  simp only at q1 q5 hcs qt qn q20 q20'
  clear hc
  have hw15 : 1 ≤ what ∧ what ≤ 5 := ⟨q1, q5⟩
  have hm := Venn.mask_range s
  obtain ⟨tA, tc, rfl, htr, htl, htc⟩ := ht
  have HT : IsInts w (.slice tA t.length tc) t := ⟨tA, tc, rfl, htr, htl, htc⟩
  clear htr htl htc
  obtain ⟨sA, sc, rfl, hsr, hsl, hsc⟩ := hs
  have HS : IsInts w (.slice sA s.length sc) s := ⟨sA, sc, rfl, hsr, hsl, hsc⟩
  clear hsr hsl hsc
  have htm : 0 ≤ Venn.tMask ⟨what, s, t, n⟩ ∧ Venn.tMask ⟨what, s, t, n⟩ ≤ 255 := by
    unfold Venn.tMask
    split
    · omega
    · exact Venn.mask_range t
  have HV := Lib.hid (show ∀ h, rowV ⟨what, s, t, n⟩ h = .agg #[.int .i64 (if h = true then Venn.timesAt what (Venn.mask s) (Venn.tMask ⟨what, s, t, n⟩) 0 else -Venn.timesAt what (Venn.mask s) (Venn.tMask ⟨what, s, t, n⟩) 0), .int .i64 (if h = true then Venn.timesAt what (Venn.mask s) (Venn.tMask ⟨what, s, t, n⟩) 1 else -Venn.timesAt what (Venn.mask s) (Venn.tMask ⟨what, s, t, n⟩) 1), .int .i64 (if h = true then Venn.timesAt what (Venn.mask s) (Venn.tMask ⟨what, s, t, n⟩) 2 else -Venn.timesAt what (Venn.mask s) (Venn.tMask ⟨what, s, t, n⟩) 2), .int .i64 (if h = true then Venn.timesAt what (Venn.mask s) (Venn.tMask ⟨what, s, t, n⟩) 3 else -Venn.timesAt what (Venn.mask s) (Venn.tMask ⟨what, s, t, n⟩) 3), .int .i64 (if h = true then Venn.timesAt what (Venn.mask s) (Venn.tMask ⟨what, s, t, n⟩) 4 else -Venn.timesAt what (Venn.mask s) (Venn.tMask ⟨what, s, t, n⟩) 4), .int .i64 (if h = true then Venn.timesAt what (Venn.mask s) (Venn.tMask ⟨what, s, t, n⟩) 5 else -Venn.timesAt what (Venn.mask s) (Venn.tMask ⟨what, s, t, n⟩) 5), .int .i64 (if h = true then Venn.timesAt what (Venn.mask s) (Venn.tMask ⟨what, s, t, n⟩) 6 else -Venn.timesAt what (Venn.mask s) (Venn.tMask ⟨what, s, t, n⟩) 6), .int .i64 (if h = true then Venn.timesAt what (Venn.mask s) (Venn.tMask ⟨what, s, t, n⟩) 7 else -Venn.timesAt what (Venn.mask s) (Venn.tMask ⟨what, s, t, n⟩) 7), .int .i64 (Venn.rowM ⟨what, s, t, n⟩ h)] from fun h => rfl)
  have HTM := Lib.hid (show Venn.tMask ⟨what, s, t, n⟩ = if t = [] then 0 else Venn.mask t from rfl)
  have HM := Lib.hid (show ∀ h, Venn.rowM ⟨what, s, t, n⟩ h = if h = true then (if what = 3 then -n else n) else -(if what = 3 then -n else n) - 1 from fun h => rfl)
  generalize Venn.tMask ⟨what, s, t, n⟩ = tm at htm HV HTM
  rw [HV.out holds, HM.out holds]
  obtain ⟨M, hM⟩ : ∃ M, M = (if what = 3 then -n else n) := ⟨_, rfl⟩
  have hMr : -20 ≤ M ∧ M ≤ 20 := by rw [hM]; split <;> omega
  rw [← hM]
  have HMM := Lib.hid hM
  clear hM
  have r0 := Venn.timesAt_range what (Venn.mask s) tm 0
  have r1 := Venn.timesAt_range what (Venn.mask s) tm 1
  have r2 := Venn.timesAt_range what (Venn.mask s) tm 2
  have r3 := Venn.timesAt_range what (Venn.mask s) tm 3
  have r4 := Venn.timesAt_range what (Venn.mask s) tm 4
  have r5 := Venn.timesAt_range what (Venn.mask s) tm 5
  have r6 := Venn.timesAt_range what (Venn.mask s) tm 6
  have r7 := Venn.timesAt_range what (Venn.mask s) tm 7
  have HQ := Lib.hid (And.intro qt qn)
  clear qt qn HV HM q1 q5
  go_enter Tryz.func82, Tryz.ntmps82
  go_upto_if 11 with (fail)
  go_cut [5] (fun s5 wx => s5 = .int .i64 tm ∧ Below w.heap.size w wx ∧ Blk wx w.heap.size 42 #[.int .i64 what, .slice sA s.length sc, .slice tA t.length tc, .int .i64 n] ∧ Blk wx (w.heap.size + 1) 90 zero9)
  case first =>
    have S0 : Below w.heap.size w ((w.alloc (.cells #[.int .i64 what, .slice sA s.length sc, .slice tA t.length tc, .int .i64 n] 42)).alloc (.cells zero9 90)) := by (repeat' (first | (with_reducible exact Below.refl _ _) | (with_reducible assumption) | (with_reducible refine Below.next ?_ (by with_reducible assumption)) | (with_reducible refine Below.drew ?_) | (with_reducible refine Below.laid ?_ _) | (with_reducible refine Below.setCell ?_ ?_ _) | (with_reducible refine size_of ?_) | (with_reducible refine Nat.le_succ_of_le ?_) | go_size))
    have B0 := (Blk.new w 42 #[.int .i64 what, .slice sA s.length sc, .slice tA t.length tc, .int .i64 n]).alloc (.cells zero9 90)
    have R0 := Blk.newAt (w := w.alloc (.cells #[.int .i64 what, .slice sA s.length sc, .slice tA t.length tc, .int .i64 n] 42)) (g := w.heap.size + 1) (by simp) 90 zero9
    by_cases hnil : t = []
    · have HX := Lib.hid (show tm = 0 by rw [HTM.out, if_pos hnil])
      have hl0 : ¬ (0 : Int) < (t.length : Int) := by simp [hnil]
      clear hnil
      go_wp2
      go_meet
      case rel => exact ⟨by rw [HX.out], S0, B0, R0⟩
    · have hl0 : (0 : Int) < (t.length : Int) := by
        rcases t with _ | ⟨x, t⟩
        · exact absurd rfl hnil
        · simp only [List.length_cons]; omega
      have hct : Venn.termChk t = 0 := HQ.out.1 (by
        rcases hh : Venn.hasT what with _ | _
        · exact absurd (HQ.out.2 hh) hnil
        · rfl)
      have HX := Lib.hid (show tm = Venn.mask t by rw [HTM.out, if_neg hnil])
      clear hnil
      go_wp2_with (go_at_call 98; refine (fields_Where _ t _ (HT.keep S0) hct).mono ?_; rintro e w1 ⟨rfl, hb1⟩)
      go_meet
      case rel => exact ⟨by rw [HX.out], Below.next S0 hb1, B0.keep hb1, R0.keep hb1⟩
  case rest =>
    obtain ⟨rfl, S1, B1, R1⟩ := hcut
    have hs1 := HS.keep S1
    obtain ⟨z0, z1, z2, z3⟩ := B1.cells4
    have hbl := B1.lt
    have hrl := R1.lt
    clear HT HQ HTM
    go_upto_region 4 with (fail)
    go_cut [6] (fun s6 wx => ∃ g, s6 = .pointer (some ⟨g, 0, none⟩) ∧ Below w.heap.size w wx ∧ w.heap.size + 1 < g ∧ Blk wx w.heap.size 42 #[.int .i64 what, .slice sA s.length sc, .slice tA t.length tc, .int .i64 n] ∧ Blk wx (w.heap.size + 1) 90 zero9 ∧
      Blk wx g 90 (row9 what (Venn.mask s) tm n))
    case first =>
      clear r0 r1 r2 r3 r4 r5 r6 r7
      have hm1 := hm.1
      go_region_held3 (fun w' => w'.cell? ⟨w.heap.size, 0, none⟩ = some (.int .i64 what) ∧ w'.cell? ⟨w.heap.size, 1, none⟩ = some (.slice sA s.length sc) ∧ w'.cell? ⟨w.heap.size, 2, none⟩ = some (.slice tA t.length tc) ∧ w'.cell? ⟨w.heap.size, 3, none⟩ = some (.int .i64 n))
        (first | with_reducible exact BT.cells4 | with_reducible exact (BT.alloc _).cells4 | with_reducible exact (BT.far9 (by simp; omega) _ _ _ _ _ _ _ _ _).cells4 | with_reducible exact BW.cells4 | with_reducible exact (BW.alloc _).cells4 | with_reducible exact (Blk.drew B1).cells4 | with_reducible exact (Blk.drew (B1.alloc _)).cells4 | with_reducible exact ((Blk.drew B1).alloc _).cells4)
        (first
        | (go_at_call 98; refine (fields_Where _ s _ (hs1.keep (by (repeat' (first | (with_reducible exact Below.refl _ _) | (with_reducible assumption) | (with_reducible refine Below.next ?_ (by with_reducible assumption)) | (with_reducible refine Below.drew ?_) | (with_reducible refine Below.laid ?_ _) | (with_reducible refine Below.setCell ?_ ?_ _) | (with_reducible refine size_of ?_) | (with_reducible refine Nat.le_succ_of_le ?_) | go_size)))) hcs).mono ?_; rintro e w1 ⟨rfl, hb1⟩
           first
           | (have BW := (Blk.drew B1).keep hb1; have RW := (Blk.drew R1).keep hb1; have SW := Below.next (Below.drew S1) hb1)
           | (have BW := (Blk.drew (B1.alloc (.cells zero9 90))).keep hb1; have RW := (Blk.drew (R1.alloc (.cells zero9 90))).keep hb1; have SW := Below.next (Below.drew (Below.laid S1 (.cells zero9 90))) hb1; have BR := (Blk.drew (Blk.new wc 90 zero9)).keep hb1)
           obtain ⟨a0, a1, a2, a3⟩ := BW.cells4
           have hlw := BW.lt
           have hlr := RW.lt)
        | (go_at_call 99; refine (rows_times_cells _ _ _ _ hw15 (by assumption) (by assumption)).mono ?_; rintro e w2 ⟨rfl, hb2⟩
           first
           | (have BT := BW.keep hb2; have RT := RW.keep hb2; have ST := Below.next SW hb2; first | have BR2 := BR.keep hb2 | skip)
           | (have BT := (BW.alloc (.cells zero9 90)).keep hb2; have RT := (RW.alloc (.cells zero9 90)).keep hb2; have ST := Below.next (Below.laid SW (.cells zero9 90)) hb2; have BR2 := (Blk.new w1 90 zero9).keep hb2)
           obtain ⟨b0, b1, b2, b3⟩ := BT.cells4
           have hlt := BT.lt
           have hlu := RT.lt
           first | (obtain ⟨⟨e0, e1, e2, e3, e4, e5, e6, e7, e8⟩, f0, f1, f2, f3, f4, f5, f6, f7, f8⟩ := BR2.cells9) | skip))
      all_goals
        go_wp2
        go_meet
        case rel =>
          refine ⟨_, rfl, ?_, ?_, ?_, ?_, ?_⟩
          all_goals (first
          | with_reducible exact below_set9 ST (by go_size) _ _ _ _ _ _ _ _ _
          | with_reducible exact below_set9 (Below.laid ST _) (by go_size) _ _ _ _ _ _ _ _ _
          | with_reducible exact BT.far9 (by go_size) _ _ _ _ _ _ _ _ _
          | with_reducible exact RT.far9 (by go_size) _ _ _ _ _ _ _ _ _
          | with_reducible exact BR2.set9 _ _ _ _ _ _ _ _ _
          | with_reducible exact (BT.alloc _).far9 (by go_size) _ _ _ _ _ _ _ _ _
          | with_reducible exact (RT.alloc _).far9 (by go_size) _ _ _ _ _ _ _ _ _
          | with_reducible exact (Blk.new _ _ zero9).set9 _ _ _ _ _ _ _ _ _
          | with_reducible exact Below.laid ST _
          | with_reducible exact BT.alloc _
          | with_reducible exact RT.alloc _
          | with_reducible exact Blk.new _ _ _
          | go_size)
    case rest =>
      obtain ⟨g, rfl, S2, hg, B2, R2, G2⟩ := hcut
      clear S1 B1 R1 z0 z1 z2 z3 hbl hrl hs1
      have hgl := G2.lt
      obtain ⟨z0, z1, z2, z3⟩ := B2.cells4
      go_upto_if 27 with (fail)
      go_cut [] (fun wx => Below w.heap.size w wx ∧ Blk wx (w.heap.size + 1) 90 zero9 ∧ Blk wx g 90 (row9 what (Venn.mask s) tm M))
      case first =>
        have f8 := G2.frozen 8
        have c8 := G2.cell 8
        rw [show (row9 what (Venn.mask s) tm n)[8]? = some (.int .i64 n) from rfl] at c8
        have hwr : IntKind.i64.wrap (-n) = -n := wrap_of (by omega) (by omega)
        by_cases h3 : what = 3
        · have hM' := Lib.hid (show M = -n by rw [HMM.out, if_pos h3])
          have G3 := G2.set_ 8 (.int .i64 (-n))
          rw [show (row9 what (Venn.mask s) tm n).setIfInBounds 8 (.int .i64 (-n)) = row9 what (Venn.mask s) tm (-n) by simp] at G3
          have hb3 : (what == 3) = true := by simpa using h3
          clear h3
          go_wp2
          go_meet
          case rel => rw [hM'.out]; exact ⟨S2.setCell (by go_size) _, R2.far (by go_size) _, G3⟩
        · have hM' := Lib.hid (show M = n by rw [HMM.out, if_neg h3])
          have hb3 : (what == 3) = false := by simpa using h3
          clear h3
          go_wp2
          go_meet
          case rel => rw [hM'.out]; exact ⟨S2, R2, G2⟩
      case rest =>
        obtain ⟨S3, R3, G3⟩ := hcut
        clear HMM S2 R2 G2 B2 hgl z0 z1 z2 z3
        have hrl3 := R3.lt
        have hgl3 := G3.lt
        cases holds
        · rw [negC_0] at G3
          go_wp2
          go_loopw [34] (fun i wr => ∃ k : Nat, k ≤ 8 ∧ i = .int .i64 k ∧ Below w.heap.size w wr ∧ Blk wr (w.heap.size + 1) 90 zero9 ∧ Blk wr g 90 (negC (Venn.timesAt what (Venn.mask s) tm) M k))
            (fun i _ => 8 - (intOf i).toNat)
          case atStart => exact ⟨0, by omega, rfl, S3, R3, G3⟩
          case round =>
            obtain ⟨k, hk, rfl, hb, hR, hG⟩ := hrel
            have hgl4 := hG.lt
            by_cases hlt : (k : Int) < 8
            · have hc := hG.cell k
              have hfz := hG.frozen k
              rw [negC_at _ _ _ (by omega)] at hc
              have hx := Venn.timesAt_range what (Venn.mask s) tm k
              have hG' := hG.set_ k (.int .i64 (-(Venn.timesAt what (Venn.mask s) tm k)))
              rw [negC_set _ _ _ (by omega)] at hG'
              have hwr : IntKind.i64.wrap (-(Venn.timesAt what (Venn.mask s) tm k)) = -(Venn.timesAt what (Venn.mask s) tm k) := wrap_of (by omega) (by omega)
              generalize Venn.timesAt what (Venn.mask s) tm k = X at hc hG' hwr
              clear hx
              have hk0 : (0 : Int) ≤ (k : Int) := by omega
              go_wp2
              go_roundw
              case rel => exact ⟨k + 1, by omega, by go_num, hb.setCell (by go_size) _, hR.far (by go_size) _, hG'⟩
              case measure => simp [intOf]; omega
            · obtain rfl : k = 8 := by omega
              rw [negC_8] at hG
              have f8 := hG.frozen 8
              have c8' := hG.cell 8
              have hG' := hG.set_ 8 (.int .i64 (-M - 1))
              obtain ⟨⟨c0, c1, c2, c3, c4, c5, c6, c7, c8⟩, _⟩ := hG'.cells9
              obtain ⟨⟨d0, d1, d2, d3, d4, d5, d6, d7, d8⟩, g0, g1, g2, g3, g4, g5, g6, g7, g8⟩ := (hR.far (p := ⟨g, 8, none⟩) (by go_size) (.int .i64 (-M - 1))).cells9
              have hwr : IntKind.i64.wrap (-M) = -M := wrap_of (by omega) (by omega)
              have hwr2 : IntKind.i64.wrap (-M - 1) = -M - 1 := wrap_of (by omega) (by omega)
              go_wp2
              refine bodyPost_ret (v := .agg #[.int .i64 (-Venn.timesAt what (Venn.mask s) tm 0), .int .i64 (-Venn.timesAt what (Venn.mask s) tm 1), .int .i64 (-Venn.timesAt what (Venn.mask s) tm 2), .int .i64 (-Venn.timesAt what (Venn.mask s) tm 3), .int .i64 (-Venn.timesAt what (Venn.mask s) tm 4), .int .i64 (-Venn.timesAt what (Venn.mask s) tm 5), .int .i64 (-Venn.timesAt what (Venn.mask s) tm 6), .int .i64 (-Venn.timesAt what (Venn.mask s) tm 7), .int .i64 (-M - 1)]) (by simp [results, Tryz.results82, go_sem, d0, d1, d2, d3, d4, d5, d6, d7, d8]) rfl ⟨by simp, ?_⟩
              exact below_set9 (hb.setCell (by go_size) _) (by go_size) _ _ _ _ _ _ _ _ _
        · obtain ⟨⟨d0, d1, d2, d3, d4, d5, d6, d7, d8⟩, f0, f1, f2, f3, f4, f5, f6, f7, f8⟩ := R3.cells9
          obtain ⟨⟨c0, c1, c2, c3, c4, c5, c6, c7, c8⟩, _⟩ := G3.cells9
          go_wp2
          refine bodyPost_ret (v := .agg (row9 what (Venn.mask s) tm M)) (by simp [results, Tryz.results82, go_sem, d0, d1, d2, d3, d4, d5, d6, d7, d8]) rfl ⟨by simp, ?_⟩
          exact below_set9 S3 (by go_size) _ _ _ _ _ _ _ _ _
end Go.Proofs.YtlpfbdejiifbpaaGreatDoor
