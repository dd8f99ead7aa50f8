/-
  THE WALKS of vennsame.Forms, at the same forms, and of the reference's Alone.
-/
import Derived.Test.YtjnjgcibhjdmdaaGreatDoorSameFormG
import Derived.Test.YtjnjgcibhjdmdaaGreatDoorSpanG
import Derived.Test.YtjnjgcibhjdmdaaGreatDoorLogAlone
namespace Go.Proofs.YtjnjgcibhjdmdaaGreatDoor
open Go.RowKit

theorem forms_sliceL {w : World} {v : Value} {l : List Venn.Form} (h : IsForms w v l) : ∃ A c, v = .slice A l.length c := let ⟨A, c, e, _⟩ := h; ⟨A, c, e⟩
set_option maxHeartbeats 2000000 in
set_option maxRecDepth 100000 in
theorem same_Forms (v1 v2 : Value) (l : List Venn.Form) (w : World) (h1 : IsForms w v1 l) (h2 : IsForms w v2 l) :
    Calls Tryz.prog 23 #[v1, v2] w (Keeps (.bool true) w) := by
  obtain ⟨A, cA, rfl, hra, hA1, hA2⟩ := h1
  obtain ⟨B, cB, rfl, hrb, hB1, hB2⟩ := h2
  have HA := Lib.hid hra
  have HB := Lib.hid hrb
  unfold maxLen at hA2 hB2
  clear hra hrb
  go_enter Tryz.func23, Tryz.ntmps23
  go_wp2
  go_loopw [5] (fun i wr => ∃ k : Nat, k ≤ l.length ∧ i = .int .i64 k ∧ Below w.heap.size w wr) (fun i _ => l.length - (intOf i).toNat)
  case atStart => exact ⟨0, Nat.zero_le _, rfl, Below.refl _ _⟩
  case round =>
    obtain ⟨k, hk, rfl, hb⟩ := hrel
    obtain ⟨wo, rfl⟩ : ∃ wo : World, wo = wr := ⟨_, rfl⟩
    by_cases hlt : k < l.length
    · obtain ⟨ad, sa, sc, rfl, a0, a1, ha, hc⟩ := HA.out k _ (List.getElem?_eq_getElem hlt)
      obtain ⟨bd, sb, sd, rfl, b0, b1, hb', hd⟩ := HB.out k _ (List.getElem?_eq_getElem hlt)
      generalize l[k] = f at a0 a1 ha hc b0 b1 hb' hd
      obtain ⟨fl, fc⟩ := f
      simp only at a0 a1 ha hc b0 b1 hb' hd
      obtain ⟨q1, k1, rfl⟩ := ha.slice
      obtain ⟨q2, k2, rfl⟩ := hc.slice
      obtain ⟨q3, k3, rfl⟩ := hb'.slice
      obtain ⟨q4, k4, rfl⟩ := hd.slice
      have HS := Lib.hid (And.intro ha hc)
      have HS' := Lib.hid (And.intro hb' hd)
      replace a0 := cell_keep hb a0
      replace a1 := cell_keep hb a1
      replace b0 := cell_keep hb b0
      replace b1 := cell_keep hb b1
      have hk1 : (k : Int) < (l.length : Int) := by omega
      have hk0 : (0 : Int) ≤ (k : Int) := by omega
      clear ha hc hb' hd
      go_wp2_with fail
      go_region_law (go_simp; go_at_call 48; refine (same_Form _ _ _ _ fl fc _ (HS.out.1.keep (by (repeat' (first | (with_reducible exact Below.refl _ _) | (with_reducible assumption) | (with_reducible refine Below.next ?_ (by with_reducible assumption)) | (with_reducible refine Below.drew ?_) | (with_reducible refine Below.laid ?_ _) | (with_reducible refine Below.setCell ?_ ?_ _) | (with_reducible refine size_of ?_) | (with_reducible refine Nat.le_succ_of_le ?_) | go_size)))) (HS.out.2.keep (by (repeat' (first | (with_reducible exact Below.refl _ _) | (with_reducible assumption) | (with_reducible refine Below.next ?_ (by with_reducible assumption)) | (with_reducible refine Below.drew ?_) | (with_reducible refine Below.laid ?_ _) | (with_reducible refine Below.setCell ?_ ?_ _) | (with_reducible refine size_of ?_) | (with_reducible refine Nat.le_succ_of_le ?_) | go_size)))) (HS'.out.1.keep (by (repeat' (first | (with_reducible exact Below.refl _ _) | (with_reducible assumption) | (with_reducible refine Below.next ?_ (by with_reducible assumption)) | (with_reducible refine Below.drew ?_) | (with_reducible refine Below.laid ?_ _) | (with_reducible refine Below.setCell ?_ ?_ _) | (with_reducible refine size_of ?_) | (with_reducible refine Nat.le_succ_of_le ?_) | go_size)))) (HS'.out.2.keep (by (repeat' (first | (with_reducible exact Below.refl _ _) | (with_reducible assumption) | (with_reducible refine Below.next ?_ (by with_reducible assumption)) | (with_reducible refine Below.drew ?_) | (with_reducible refine Below.laid ?_ _) | (with_reducible refine Below.setCell ?_ ?_ _) | (with_reducible refine size_of ?_) | (with_reducible refine Nat.le_succ_of_le ?_) | go_size))))).mono ?_; rintro e w1 ⟨rfl, hb1⟩)
      all_goals
        go_wp2
        go_roundw
        case rel => exact ⟨k + 1, by omega, by go_num, by (repeat' (first | (with_reducible exact Below.refl _ _) | (with_reducible assumption) | (with_reducible refine Below.next ?_ (by with_reducible assumption)) | (with_reducible refine Below.drew ?_) | (with_reducible refine Below.laid ?_ _) | (with_reducible refine Below.setCell ?_ ?_ _) | (with_reducible refine size_of ?_) | (with_reducible refine Nat.le_succ_of_le ?_) | go_size))⟩
        case measure => simp [intOf]; omega
    · obtain rfl : k = l.length := by omega
      go_wp2
      go_ret
      exact ⟨rfl, hb⟩
/-- A form of its own blocks, but for the atom's sets. -/
def AloneR (B0 : Nat) (f : Venn.Form) (w : World) (e : Ending) (w' : World) : Prop :=
  ∃ A kA C kC, e = .returned (.agg #[.slice A f.atoms.length kA, .slice C f.code.length kC]) ∧ Below w.heap.size w w' ∧
    ∀ W, But (fun b => B0 ≤ b ∧ b < w.heap.size) w' W → IsAtoms W (.slice A f.atoms.length kA) f.atoms ∧ IsInts W (.slice C f.code.length kC) f.code
set_option maxHeartbeats 4000000 in
set_option maxRecDepth 100000 in
theorem ref_Alone (B0 : Nat) (what n : Int) (sv tv : Value) (s t : List Int) (holds : Bool) (w : World) (hB0 : B0 ≤ w.heap.size) (hst : ∀ W, Below B0 w W → IsInts W sv s ∧ IsInts W tv t) :
    Calls Tryz.prog 21 #[.agg #[.int .i64 what, sv, tv, .int .i64 n], .bool holds] w (AloneR B0 (Venn.aloneF ⟨what, s, t, n⟩ holds) w) := by
  have HST := Lib.hid hst
  obtain ⟨SA, kS, rfl, _⟩ := (hst w (Below.refl _ _)).1
  obtain ⟨TA, kT, rfl, _⟩ := (hst w (Below.refl _ _)).2
  clear hst
  generalize hW1 : ((((w.alloc (.cells #[.int .i64 what, .slice SA s.length kS, .slice TA t.length kT, .int .i64 n] 32)).alloc (.cells #[.slice none 0 0, .slice none 0 0] 38)).alloc (.cells #[.int .i64 what, .slice SA s.length kS, .slice TA t.length kT, .int .i64 n] 32)).alloc (.cells #[.int .i64 0] 3)).alloc (.cells #[.slice (some ⟨w.heap.size + 1 + 1, 0, none⟩) 1 1, .slice (some ⟨w.heap.size + 1 + 1 + 1, 0, none⟩) 1 1] 38) = w1
  have hb0 : Below w.heap.size w w1 := by rw [← hW1]; (repeat' (first | (with_reducible exact Below.refl _ _) | (with_reducible assumption) | (with_reducible refine Below.next ?_ (by with_reducible assumption)) | (with_reducible refine Below.drew ?_) | (with_reducible refine Below.laid ?_ _) | (with_reducible refine Below.setCell ?_ ?_ _) | (with_reducible refine size_of ?_) | (with_reducible refine Nat.le_succ_of_le ?_) | go_size))
  have hsz : w1.heap.size = w.heap.size + 5 := by rw [← hW1]; simp
  have B1 : Blk w1 (w.heap.size + 1) 38 #[.slice none 0 0, .slice none 0 0] := by
    rw [← hW1]; exact (((Blk.newAt (w := w.alloc (.cells #[.int .i64 what, .slice SA s.length kS, .slice TA t.length kT, .int .i64 n] 32)) (g := w.heap.size + 1) (by simp) 38 #[.slice none 0 0, .slice none 0 0]).alloc _).alloc _).alloc _
  have B2 : Blk w1 (w.heap.size + 1 + 1) 32 #[.int .i64 what, .slice SA s.length kS, .slice TA t.length kT, .int .i64 n] := by
    rw [← hW1]; exact ((Blk.newAt (w := (w.alloc (.cells #[.int .i64 what, .slice SA s.length kS, .slice TA t.length kT, .int .i64 n] 32)).alloc (.cells #[.slice none 0 0, .slice none 0 0] 38)) (g := w.heap.size + 1 + 1) (by simp) 32 #[.int .i64 what, .slice SA s.length kS, .slice TA t.length kT, .int .i64 n]).alloc _).alloc _
  have B3 : Blk w1 (w.heap.size + 1 + 1 + 1) 3 #[.int .i64 0] := by
    rw [← hW1]; exact (Blk.newAt (w := ((w.alloc (.cells #[.int .i64 what, .slice SA s.length kS, .slice TA t.length kT, .int .i64 n] 32)).alloc (.cells #[.slice none 0 0, .slice none 0 0] 38)).alloc (.cells #[.int .i64 what, .slice SA s.length kS, .slice TA t.length kT, .int .i64 n] 32)) (g := w.heap.size + 1 + 1 + 1) (by simp) 3 #[.int .i64 0]).alloc _
  have B4 : Blk w1 (w.heap.size + 1 + 1 + 1 + 1) 38 #[.slice (some ⟨w.heap.size + 1 + 1, 0, none⟩) 1 1, .slice (some ⟨w.heap.size + 1 + 1 + 1, 0, none⟩) 1 1] := by
    rw [← hW1]; exact Blk.newAt (by simp) _ _
  have HW1 := Lib.hid hW1
  have HATM := Lib.hid (fun W (hW : But (fun b => (B0 ≤ b ∧ b < w.heap.size) ∨ b = w.heap.size + 1 ∨ w.heap.size + 3 ≤ b) w1 W) => show IsAtoms W (.slice (some ⟨w.heap.size + 1 + 1, 0, none⟩) 1 1) [⟨what, s, t, n⟩] from by
    have hB : Below B0 w W := ((But.of_below (C := fun b => (B0 ≤ b ∧ b < w.heap.size) ∨ b = w.heap.size + 1 ∨ w.heap.size + 3 ≤ b) hb0).trans hW).below hB0 (fun b h => by omega)
    exact IsAtoms.one (a := ⟨what, s, t, n⟩) (B2.but hW (by omega)) (HST.out W hB).1 (HST.out W hB).2)
  clear hW1
  have HB1 := Lib.hid B1
  have HB3 := Lib.hid B3
  have HB4 := Lib.hid B4
  have HSZ := Lib.hid hsz
  have HB0 := Lib.hid hb0
  clear B1 B2 B3 B4 hb0
  cases holds
  · go_enter Tryz.func21, Tryz.ntmps21
    go_upto_region 2 with (fail)
    rw [HW1.out]
    have hc3 : w1.ownsRow (w.heap.size + 3) 3 1 (.slice (some ⟨w.heap.size + 1 + 1 + 1, 0, none⟩) 1 1) 1 [.int .i64 0] := ⟨rfl, .inr ⟨_, 1, #[.int .i64 0], rfl, Nat.le_refl _, HB3.out, Nat.le_refl _, by simp [maxLen], rfl, rfl⟩⟩
    have HS := HSZ.out
    obtain ⟨⟨f0, f1⟩, f2, f3⟩ := HB4.out.cells2
    go_wp2_with (at_builtin; refine wpList_app1 _ rfl _ _ rfl (w.heap.size + 3) (.slice (some ⟨w.heap.size + 1 + 1 + 1, 0, none⟩) 1 1) 1 _ rfl (hc3.alloc _) w1.heap.size 1 12 (by simp [go_sem]) (by simp) (by omega) (by simp; omega) ?_)
    intro v' w5 hown hgr
    obtain ⟨gd, kd, qd, rfl, hgd, BD, hkd1, hkd2, hkd3, hkd4⟩ := own_cons hown (by omega)
    have hal : Below w1.heap.size w1 (w1.alloc (.cells #[.int .i64 12] 3)) := by have w := w1; (repeat' (first | (with_reducible exact Below.refl _ _) | (with_reducible assumption) | (with_reducible refine Below.next ?_ (by with_reducible assumption)) | (with_reducible refine Below.drew ?_) | (with_reducible refine Below.laid ?_ _) | (with_reducible refine Below.setCell ?_ ?_ _) | (with_reducible refine size_of ?_) | (with_reducible refine Nat.le_succ_of_le ?_) | go_size))
    have hbt : But (fun b => b = w.heap.size + 1 + 1 + 1) w1 w5 := (But.of_below hal).trans ((But.of_grown hgr).wide fun b e => by simp [Value.ownBlock] at e; omega)
    have GS5 := HB4.out.but hbt (by omega)
    have GR5 := HB1.out.but hbt (by omega)
    have GL5 : Below w.heap.size w w5 := HB0.out.trans (hbt.below HB0.out.size (fun b h => by omega))
    have hd4 : gd ≠ w.heap.size + 1 + 1 + 1 + 1 := by
      intro e
      have h1 : w5.heap[gd]? = some (.cells qd 3 (0, 0)) := BD
      have h2 : w5.heap[w.heap.size + 1 + 1 + 1 + 1]? = some (.cells #[.slice (some ⟨w.heap.size + 1 + 1, 0, none⟩) 1 1, .slice (some ⟨w.heap.size + 1 + 1 + 1, 0, none⟩) 1 1] 38 (0, 0)) := GS5
      rw [e, h2] at h1
      injection h1 with h1
      injection h1 with _ h1 _
      exact absurd h1 (by decide)
    have GS6 := GS5.set_ 1 (.slice (some ⟨gd, 0, none⟩) 2 kd)
    rw [show (#[Value.slice (some ⟨w.heap.size + 1 + 1, 0, none⟩) 1 1, Value.slice (some ⟨w.heap.size + 1 + 1 + 1, 0, none⟩) 1 1].setIfInBounds 1 (.slice (some ⟨gd, 0, none⟩) 2 kd)) = #[.slice (some ⟨w.heap.size + 1 + 1, 0, none⟩) 1 1, .slice (some ⟨gd, 0, none⟩) 2 kd] by simp] at GS6
    have hgg : w.heap.size + 1 ≠ w.heap.size + 1 + 1 + 1 + 1 := by omega
    have GR6 := GR5.far (p := ⟨w.heap.size + 1 + 1 + 1 + 1, 1, none⟩) hgg (.slice (some ⟨gd, 0, none⟩) 2 kd)
    have GL6 := GL5.setCell (p := ⟨w.heap.size + 1 + 1 + 1 + 1, 1, none⟩) (show w.heap.size ≤ w.heap.size + 1 + 1 + 1 + 1 by omega) (.slice (some ⟨gd, 0, none⟩) 2 kd)
    obtain ⟨⟨g0, g1⟩, g2, g3⟩ := GS5.cells2
    obtain ⟨⟨r0, r1⟩, r2, r3⟩ := GR5.cells2
    have GRf := GR6.set2 (.slice (some ⟨w.heap.size + 1 + 1, 0, none⟩) 1 1) (.slice (some ⟨gd, 0, none⟩) 2 kd)
    have GLf := below_set2 GL6 (show w.heap.size ≤ w.heap.size + 1 by omega) (.slice (some ⟨w.heap.size + 1 + 1, 0, none⟩) 1 1) (.slice (some ⟨gd, 0, none⟩) 2 kd)
    have hcl : ∀ W, But (fun b => B0 ≤ b ∧ b < w.heap.size) (((w5.setCell ⟨w.heap.size + 1 + 1 + 1 + 1, 1, none⟩ (.slice (some ⟨gd, 0, none⟩) 2 kd)).setCell ⟨w.heap.size + 1, 0, none⟩ (.slice (some ⟨w.heap.size + 1 + 1, 0, none⟩) 1 1)).setCell ⟨w.heap.size + 1, 1, none⟩ (.slice (some ⟨gd, 0, none⟩) 2 kd)) W → IsAtoms W (.slice (some ⟨w.heap.size + 1 + 1, 0, none⟩) 1 1) [⟨what, s, t, n⟩] ∧ IsInts W (.slice (some ⟨gd, 0, none⟩) 2 kd) [0, 12] := fun W hbw => by
      have h5 : But (fun b => (B0 ≤ b ∧ b < w.heap.size) ∨ b = w.heap.size + 1 ∨ b = w.heap.size + 1 + 1 + 1 + 1) w5 W := ((((But.refl _ w5).set_ (p := ⟨w.heap.size + 1 + 1 + 1 + 1, 1, none⟩) (.inr (.inr rfl)) _).set_ (p := ⟨w.heap.size + 1, 0, none⟩) (.inr (.inl rfl)) _).set_ (p := ⟨w.heap.size + 1, 1, none⟩) (.inr (.inl rfl)) _).trans (hbw.wide fun _ h => .inl h)
      have h1 : But (fun b => (B0 ≤ b ∧ b < w.heap.size) ∨ b = w.heap.size + 1 ∨ w.heap.size + 3 ≤ b) w1 W := (hbt.wide fun b h => .inr (.inr (by omega))).trans (h5.wide fun b h => by omega)
      have gc1 := own_but hown h5 (fun b e hC => by simp [Value.ownBlock] at e; omega)
      exact ⟨HATM.out W h1, IsInts.of_own (l := [0, 12]) (v := .slice (some ⟨gd, 0, none⟩) 2 kd) (n := 2) (e := 3) (base := w.heap.size + 3) (w := W) (by simpa using gc1)⟩
    have GF := Lib.hid (And.intro GLf hcl)
    clear f0 f1 f2 f3 hbt hgr hown GS6 GR6 GL6 GL5 GLf hcl BD hc3
    go_wp2
    clear g0 g1 g2 g3 r0 r1 r2 r3 GS5 GR5
    revert GRf GF
    generalize World.setCell _ _ _ = Wf
    intro GRf GF
    obtain ⟨⟨e0, e1⟩, _⟩ := GRf.cells2
    refine bodyPost_ret (v := .agg #[.slice (some ⟨w.heap.size + 1 + 1, 0, none⟩) 1 1, .slice (some ⟨gd, 0, none⟩) 2 kd]) (by simp [results, Tryz.results21, go_sem, e0, e1]) rfl ?_
    exact ⟨some ⟨w.heap.size + 1 + 1, 0, none⟩, 1, some ⟨gd, 0, none⟩, kd, rfl, GF.out.1, GF.out.2⟩
  · go_enter Tryz.func21, Tryz.ntmps21
    go_upto_region 2 with (fail)
    rw [HW1.out]
    have GRf := HB1.out.set2 (.slice (some ⟨w.heap.size + 1 + 1, 0, none⟩) 1 1) (.slice (some ⟨w.heap.size + 1 + 1 + 1, 0, none⟩) 1 1)
    have GLf := below_set2 HB0.out (show w.heap.size ≤ w.heap.size + 1 by omega) (.slice (some ⟨w.heap.size + 1 + 1, 0, none⟩) 1 1) (.slice (some ⟨w.heap.size + 1 + 1 + 1, 0, none⟩) 1 1)
    have hcl : ∀ W, But (fun b => B0 ≤ b ∧ b < w.heap.size) ((w1.setCell ⟨w.heap.size + 1, 0, none⟩ (.slice (some ⟨w.heap.size + 1 + 1, 0, none⟩) 1 1)).setCell ⟨w.heap.size + 1, 1, none⟩ (.slice (some ⟨w.heap.size + 1 + 1 + 1, 0, none⟩) 1 1)) W → IsAtoms W (.slice (some ⟨w.heap.size + 1 + 1, 0, none⟩) 1 1) [⟨what, s, t, n⟩] ∧ IsInts W (.slice (some ⟨w.heap.size + 1 + 1 + 1, 0, none⟩) 1 1) [0] := fun W hbw => by
      have h2 : But (fun b => (B0 ≤ b ∧ b < w.heap.size) ∨ b = w.heap.size + 1) w1 W := (((But.refl _ w1).set_ (p := ⟨w.heap.size + 1, 0, none⟩) (.inr rfl) _).set_ (p := ⟨w.heap.size + 1, 1, none⟩) (.inr rfl) _).trans (hbw.wide fun _ h => .inl h)
      exact ⟨HATM.out W (h2.wide fun b h => h.elim .inl (fun h => .inr (.inl h))), IsInts.of_blk1 (HB3.out.but h2 (by omega))⟩
    have GF := Lib.hid (And.intro GLf hcl)
    clear GLf hcl
    obtain ⟨⟨f0, f1⟩, f2, f3⟩ := HB4.out.cells2
    obtain ⟨⟨r0, r1⟩, r2, r3⟩ := HB1.out.cells2
    go_wp2
    clear f0 f1 f2 f3 r0 r1 r2 r3
    revert GRf GF
    generalize World.setCell _ _ _ = Wf
    intro GRf GF
    obtain ⟨⟨e0, e1⟩, _⟩ := GRf.cells2
    refine bodyPost_ret (v := .agg #[.slice (some ⟨w.heap.size + 1 + 1, 0, none⟩) 1 1, .slice (some ⟨w.heap.size + 1 + 1 + 1, 0, none⟩) 1 1]) (by simp [results, Tryz.results21, go_sem, e0, e1]) rfl ?_
    exact ⟨some ⟨w.heap.size + 1 + 1, 0, none⟩, 1, some ⟨w.heap.size + 1 + 1 + 1, 0, none⟩, 1, rfl, GF.out.1, GF.out.2⟩
end Go.Proofs.YtjnjgcibhjdmdaaGreatDoor
