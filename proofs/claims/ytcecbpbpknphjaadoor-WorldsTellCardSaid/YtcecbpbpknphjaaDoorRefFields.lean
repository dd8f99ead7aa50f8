/-
  THE WALKS of fields.World and of the reference's Counts.
-/
import Derived.Test.YtcecbpbpknphjaaDoorRefMade
import Derived.Test.YtcecbpbpknphjaaDoorFields
namespace Venn
def worldOfV (l : List Int) : World := if countsChk l = 0 then made l else ⟨0, 0, 0, 0⟩
end Venn
namespace Go.Proofs.YtcecbpbpknphjaaDoor
open Go.RowKit

theorem Blk.set4 {w : World} {g : Nat} {t : TypeId} {y0 y1 y2 y3 : Value} (h : Blk w g t #[y0, y1, y2, y3]) (x0 x1 x2 x3 : Value) :
    Blk ((((w.setCell ⟨g, 0, none⟩ x0).setCell ⟨g, 1, none⟩ x1).setCell ⟨g, 2, none⟩ x2).setCell ⟨g, 3, none⟩ x3) g t #[x0, x1, x2, x3] := by
  have := (((h.set_ 0 x0).set_ 1 x1).set_ 2 x2).set_ 3 x3
  have e : (((#[y0, y1, y2, y3].setIfInBounds 0 x0).setIfInBounds 1 x1).setIfInBounds 2 x2).setIfInBounds 3 x3 = #[x0, x1, x2, x3] := by simp
  rw [e] at this
  exact this
theorem below_set4 {B : Nat} {a w : World} (h : Below B a w) {g : Nat} (hg : B ≤ g) (x0 x1 x2 x3 : Value) :
    Below B a ((((w.setCell ⟨g, 0, none⟩ x0).setCell ⟨g, 1, none⟩ x1).setCell ⟨g, 2, none⟩ x2).setCell ⟨g, 3, none⟩ x3) :=
  (((h.setCell (p := ⟨g, 0, none⟩) hg _).setCell (p := ⟨g, 1, none⟩) hg _).setCell (p := ⟨g, 2, none⟩) hg _).setCell (p := ⟨g, 3, none⟩) hg _
theorem counts_parts {l : List Int} (h : Venn.countsChk l = 0) : (∀ x ∈ l, 0 ≤ x) ∧ l.sum ≤ 6 := by
  unfold Venn.countsChk at h
  split at h
  · rename_i ha
    split at h
    · cases h
    · refine ⟨fun x hx => ?_, by omega⟩
      have := List.all_eq_true.1 ha x hx
      simp only [Venn.things, Bool.and_eq_true, decide_eq_true_eq] at this
      exact this.1
  · cases h

/-- The field so far, of the names ahead of q. -/
def fpart (W : Venn.World) (i : Nat) : Nat → Int
  | 0 => 0
  | 1 => Venn.toI (Venn.bit W.a i)
  | 2 => Venn.toI (Venn.bit W.a i) + 2 * Venn.toI (Venn.bit W.b i)
  | _ => Venn.toI (Venn.bit W.a i) + 2 * Venn.toI (Venn.bit W.b i) + 4 * Venn.toI (Venn.bit W.c i)
theorem fpart_three (W : Venn.World) (i : Nat) : fpart W i 3 = (Venn.fieldIn W i : Nat) := by
  unfold fpart Venn.fieldIn Venn.toI
  cases Venn.bit W.a i <;> cases Venn.bit W.b i <;> cases Venn.bit W.c i <;> rfl

set_option maxHeartbeats 4000000 in
set_option maxRecDepth 100000 in
theorem ref_Fields (th a b c : Int) (w : World) (hw : Venn.worldChk ⟨th, a, b, c⟩ = 0) :
    Calls Tryd.prog 44 #[.agg #[.int .i64 th, .int .i64 a, .int .i64 b, .int .i64 c]] w (Keeps (.agg (cells (Venn.fieldsOf ⟨th, a, b, c⟩))) w) := by
  obtain ⟨h0, ra, rb, rc⟩ := Venn.worldChk_iff.1 hw
  have ba := setChk_63 ra
  have bb := setChk_63 rb
  have bc := setChk_63 rc
  have h6 : 0 ≤ th ∧ th ≤ 6 := by have := h0; simpa only [Venn.things, Bool.and_eq_true, decide_eq_true_eq] using this
  clear h0 hw ra rb rc
  obtain ⟨T, rfl⟩ := Int.eq_ofNat_of_zero_le h6.1
  obtain ⟨E, hE⟩ : ∃ E, E = Value.agg (cells (Venn.fieldsOf ⟨T, a, b, c⟩)) := ⟨_, rfl⟩
  rw [← hE]
  have HE := Lib.hid (show E = .agg (fcells ⟨T, a, b, c⟩ T) from hE)
  clear hE
  go_enter Tryd.func44, Tryd.ntmps44
  go_wp2
  go_loopw [4] (fun i wr => ∃ n : Nat, n ≤ T ∧ i = .int .i64 n ∧ Below w.heap.size w wr ∧ Blk wr w.heap.size 28 #[.int .i64 T, .int .i64 a, .int .i64 b, .int .i64 c] ∧ Blk wr (w.heap.size + 1) 77 zero8 ∧ Blk wr (w.heap.size + 1 + 1) 77 (fcells ⟨T, a, b, c⟩ n))
    (fun i _ => T - (intOf i).toNat)
  case atStart => exact ⟨0, Nat.zero_le _, rfl, by (repeat' (first | (with_reducible exact Below.refl _ _) | (with_reducible assumption) | (with_reducible refine Below.next ?_ (by with_reducible assumption)) | (with_reducible refine Below.drew ?_) | (with_reducible refine Below.laid ?_ _) | (with_reducible refine Below.setCell ?_ ?_ _) | (with_reducible refine size_of ?_) | (with_reducible refine Nat.le_succ_of_le ?_) | go_size)), ((Blk.new _ _ _).alloc _).alloc _, (Blk.newAt (by simp) _ _).alloc _, Blk.newAt (by simp) _ _⟩
  case round =>
    obtain ⟨n, hn, rfl, hb, hB0, hB1, hB2⟩ := hrel
    obtain ⟨wo, rfl⟩ : ∃ wo : World, wo = wr := ⟨_, rfl⟩
    obtain ⟨c0, c1, c2, c3⟩ := hB0.cells4
    have hl0 := hB0.lt
    have hl2 := hB2.lt
    by_cases hlt : n < T
    · have hk1 : (n : Int) < (T : Int) := by omega
      have hn5 : (n : Int) ≤ 5 := by omega
      have hn0 : (0 : Int) ≤ (n : Int) := by omega
      have hfr := Venn.fieldsAt_range ⟨T, a, b, c⟩ n
      have hf := Venn.fieldIn_lt ⟨T, a, b, c⟩ n
      have HF3 := Lib.hid (fpart_three ⟨T, a, b, c⟩ n)
      have HST := Lib.hid (fcells_step ⟨T, a, b, c⟩ n)
      have HAT := Lib.hid (fcells_at ⟨T, a, b, c⟩ n hf)
      have hfrf := hfr (Venn.fieldIn ⟨T, a, b, c⟩ n)
      have HHAS := Lib.hid (fun (s : Int) (hs : 0 ≤ s ∧ s ≤ 63) W => ref_Has s (n : Int) W hs ⟨hn0, hn5⟩)
      simp only [Int.toNat_natCast] at HHAS
      have HNX := Lib.hid (show ∀ Wx : World, Blk Wx (w.heap.size + 1 + 1) 77 ((fcells ⟨T, a, b, c⟩ n).setIfInBounds (Venn.fieldIn ⟨T, a, b, c⟩ n) (.int .i64 (Venn.fieldsAt ⟨T, a, b, c⟩ n (Venn.fieldIn ⟨T, a, b, c⟩ n) + 1))) → Blk Wx (w.heap.size + 1 + 1) 77 (fcells ⟨T, a, b, c⟩ (n + 1)) from fun Wx h => by rw [← HST.out]; exact h)
      have HCL := Lib.hid (show wo.cell? ⟨w.heap.size + 1 + 1, Venn.fieldIn ⟨T, a, b, c⟩ n, none⟩ = some (.int .i64 (Venn.fieldsAt ⟨T, a, b, c⟩ n (Venn.fieldIn ⟨T, a, b, c⟩ n))) from (hB2.cell _).trans HAT.out)
      clear hfr HST
      go_wp2
      go_loopw [5, 6] (fun f k wr => ∃ q : Nat, q ≤ 3 ∧ k = .int .i64 q ∧ f = .int .i64 (fpart ⟨T, a, b, c⟩ n q) ∧ wr = wo) (fun _ k _ => 3 - (intOf k).toNat)
      case atStart => exact ⟨0, by omega, rfl, rfl, rfl⟩
      case round =>
        obtain ⟨q, hq, rfl, rfl, rfl⟩ := hrel
        rcases (by omega : q = 0 ∨ q = 1 ∨ q = 2 ∨ q = 3) with rfl | rfl | rfl | rfl
        · cases hx : Venn.bit a n
          · have HX := Lib.hid hx
            have HP := Lib.hid (show fpart ⟨T, a, b, c⟩ n 1 = fpart ⟨T, a, b, c⟩ n 0 by simp [fpart, Venn.toI, hx])
            clear hx
            generalize fpart ⟨T, a, b, c⟩ n 0 = F at HP ⊢
            go_wp2_with (go_at_call 55; refine (HHAS.out _ ba _).mono ?_; rintro e w' ⟨rfl, rfl⟩; rw [HX.out])
            go_roundw
            case rel => exact ⟨1, by omega, by go_num, by rw [HP.out], trivial⟩
            case measure => simp [intOf]
          · have HX := Lib.hid hx
            have hfb : 0 ≤ fpart ⟨T, a, b, c⟩ n 0 ∧ fpart ⟨T, a, b, c⟩ n 0 ≤ 7 := by
              have t1 := Venn.toI_01 (Venn.bit a n)
              have t2 := Venn.toI_01 (Venn.bit b n)
              simp only [fpart]
              omega
            have HP := Lib.hid (show fpart ⟨T, a, b, c⟩ n 1 = fpart ⟨T, a, b, c⟩ n 0 + 1 by simp [fpart, Venn.toI, hx])
            clear hx
            generalize fpart ⟨T, a, b, c⟩ n 0 = F at HP hfb ⊢
            have hw : IntKind.i64.wrap (F + 1) = F + 1 := IntWalk.i64_in _ (by omega)
            have HPW := Lib.hid (fun W => ref_Power 0 W (by decide))
            go_wp2_with (first
              | (go_at_call 55; refine (HHAS.out _ ba _).mono ?_; rintro e w' ⟨rfl, rfl⟩; rw [HX.out])
              | (go_at_call 19; refine (HPW.out _).mono ?_; rintro e w' ⟨rfl, rfl⟩))
            go_roundw
            case rel => exact ⟨1, by omega, by go_num, by rw [HP.out], trivial⟩
            case measure => simp [intOf]
        · cases hx : Venn.bit b n
          · have HX := Lib.hid hx
            have HP := Lib.hid (show fpart ⟨T, a, b, c⟩ n 2 = fpart ⟨T, a, b, c⟩ n 1 by simp [fpart, Venn.toI, hx])
            clear hx
            generalize fpart ⟨T, a, b, c⟩ n 1 = F at HP ⊢
            go_wp2_with (go_at_call 55; refine (HHAS.out _ bb _).mono ?_; rintro e w' ⟨rfl, rfl⟩; rw [HX.out])
            go_roundw
            case rel => exact ⟨2, by omega, by go_num, by rw [HP.out], trivial⟩
            case measure => simp [intOf]
          · have HX := Lib.hid hx
            have hfb : 0 ≤ fpart ⟨T, a, b, c⟩ n 1 ∧ fpart ⟨T, a, b, c⟩ n 1 ≤ 7 := by
              have t1 := Venn.toI_01 (Venn.bit a n)
              have t2 := Venn.toI_01 (Venn.bit b n)
              simp only [fpart]
              omega
            have HP := Lib.hid (show fpart ⟨T, a, b, c⟩ n 2 = fpart ⟨T, a, b, c⟩ n 1 + 2 by simp [fpart, Venn.toI, hx])
            clear hx
            generalize fpart ⟨T, a, b, c⟩ n 1 = F at HP hfb ⊢
            have hw : IntKind.i64.wrap (F + 2) = F + 2 := IntWalk.i64_in _ (by omega)
            have HPW := Lib.hid (fun W => ref_Power 1 W (by decide))
            go_wp2_with (first
              | (go_at_call 55; refine (HHAS.out _ bb _).mono ?_; rintro e w' ⟨rfl, rfl⟩; rw [HX.out])
              | (go_at_call 19; refine (HPW.out _).mono ?_; rintro e w' ⟨rfl, rfl⟩))
            go_roundw
            case rel => exact ⟨2, by omega, by go_num, by rw [HP.out], trivial⟩
            case measure => simp [intOf]
        · cases hx : Venn.bit c n
          · have HX := Lib.hid hx
            have HP := Lib.hid (show fpart ⟨T, a, b, c⟩ n 3 = fpart ⟨T, a, b, c⟩ n 2 by simp [fpart, Venn.toI, hx])
            clear hx
            generalize fpart ⟨T, a, b, c⟩ n 2 = F at HP ⊢
            go_wp2_with (go_at_call 55; refine (HHAS.out _ bc _).mono ?_; rintro e w' ⟨rfl, rfl⟩; rw [HX.out])
            go_roundw
            case rel => exact ⟨3, by omega, by go_num, by rw [HP.out], trivial⟩
            case measure => simp [intOf]
          · have HX := Lib.hid hx
            have hfb : 0 ≤ fpart ⟨T, a, b, c⟩ n 2 ∧ fpart ⟨T, a, b, c⟩ n 2 ≤ 7 := by
              have t1 := Venn.toI_01 (Venn.bit a n)
              have t2 := Venn.toI_01 (Venn.bit b n)
              simp only [fpart]
              omega
            have HP := Lib.hid (show fpart ⟨T, a, b, c⟩ n 3 = fpart ⟨T, a, b, c⟩ n 2 + 4 by simp [fpart, Venn.toI, hx])
            clear hx
            generalize fpart ⟨T, a, b, c⟩ n 2 = F at HP hfb ⊢
            have hw : IntKind.i64.wrap (F + 4) = F + 4 := IntWalk.i64_in _ (by omega)
            have HPW := Lib.hid (fun W => ref_Power 2 W (by decide))
            go_wp2_with (first
              | (go_at_call 55; refine (HHAS.out _ bc _).mono ?_; rintro e w' ⟨rfl, rfl⟩; rw [HX.out])
              | (go_at_call 19; refine (HPW.out _).mono ?_; rintro e w' ⟨rfl, rfl⟩))
            go_roundw
            case rel => exact ⟨3, by omega, by go_num, by rw [HP.out], trivial⟩
            case measure => simp [intOf]
        · rw [HF3.out]
          have hcl := HCL.out
          generalize Venn.fieldsAt ⟨T, a, b, c⟩ n (Venn.fieldIn ⟨T, a, b, c⟩ n) = V at HNX hcl hfrf
          generalize Venn.fieldIn ⟨T, a, b, c⟩ n = f at HNX hcl hf
          have hwr : IntKind.i64.wrap (V + 1) = V + 1 := IntWalk.i64_in _ (by omega)
          have hf1 : (f : Int) < 8 := by omega
          have hf0 : (0 : Int) ≤ (f : Int) := by omega
          have f8 := hB2.frozen f
          go_wp2
          go_roundw
          case rel =>
            refine ⟨n + 1, by omega, by go_num, ?_, ?_, ?_, ?_⟩
            · exact hb.setCell (p := ⟨w.heap.size + 1 + 1, f, none⟩) (by show w.heap.size ≤ w.heap.size + 1 + 1; omega) _
            · exact hB0.far (by simp; omega) _
            · exact hB1.far (by simp) _
            · exact HNX.out _ (hB2.set_ f _)
          case measure => simp [intOf]; omega
    · have hnT : n = T := by omega
      subst hnT
      have hk1 : ¬ (n : Int) < (n : Int) := by omega
      have HV := Lib.hid HE.out
      clear HE
      unfold fcells at hB2 HV
      generalize Venn.fieldsAt ⟨n, a, b, c⟩ n 0 = y0 at hB2 HV
      generalize Venn.fieldsAt ⟨n, a, b, c⟩ n 1 = y1 at hB2 HV
      generalize Venn.fieldsAt ⟨n, a, b, c⟩ n 2 = y2 at hB2 HV
      generalize Venn.fieldsAt ⟨n, a, b, c⟩ n 3 = y3 at hB2 HV
      generalize Venn.fieldsAt ⟨n, a, b, c⟩ n 4 = y4 at hB2 HV
      generalize Venn.fieldsAt ⟨n, a, b, c⟩ n 5 = y5 at hB2 HV
      generalize Venn.fieldsAt ⟨n, a, b, c⟩ n 6 = y6 at hB2 HV
      generalize Venn.fieldsAt ⟨n, a, b, c⟩ n 7 = y7 at hB2 HV
      obtain ⟨⟨d0, d1, d2, d3, d4, d5, d6, d7⟩, _⟩ := hB2.cells8
      obtain ⟨⟨g0, g1, g2, g3, g4, g5, g6, g7⟩, e0, e1, e2, e3, e4, e5, e6, e7⟩ := hB1.cells8
      go_wp2
      have G := hB1.set8 (.int .i64 y0) (.int .i64 y1) (.int .i64 y2) (.int .i64 y3) (.int .i64 y4) (.int .i64 y5) (.int .i64 y6) (.int .i64 y7)
      have GL := below_set8 hb (show w.heap.size ≤ w.heap.size + 1 by omega) (.int .i64 y0) (.int .i64 y1) (.int .i64 y2) (.int .i64 y3) (.int .i64 y4) (.int .i64 y5) (.int .i64 y6) (.int .i64 y7)
      clear d0 d1 d2 d3 d4 d5 d6 d7 e0 e1 e2 e3 e4 e5 e6 e7 g0 g1 g2 g3 g4 g5 g6 g7
      revert G GL
      generalize World.setCell _ _ _ = Wf
      intro G GL
      obtain ⟨⟨d0, d1, d2, d3, d4, d5, d6, d7⟩, _⟩ := G.cells8
      exact bodyPost_ret (v := .agg #[.int .i64 y0, .int .i64 y1, .int .i64 y2, .int .i64 y3, .int .i64 y4, .int .i64 y5, .int .i64 y6, .int .i64 y7]) (by simp [results, Tryd.results44, go_sem, d0, d1, d2, d3, d4, d5, d6, d7]) rfl ⟨congrArg Ending.returned HV.out.symm, GL⟩
end Go.Proofs.YtcecbpbpknphjaaDoor
