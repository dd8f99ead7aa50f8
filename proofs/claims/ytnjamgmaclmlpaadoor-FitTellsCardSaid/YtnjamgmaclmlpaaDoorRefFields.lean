/-
  THE WALKS of fields.World and of the reference's Counts.
-/
import Derived.Test.YtnjamgmaclmlpaaDoorRefMade
import Derived.Test.YtnjamgmaclmlpaaDoorFields
namespace Venn
def worldOfV (l : List Int) : World := if countsChk l = 0 then made l else ⟨0, 0, 0, 0⟩
end Venn
namespace Go.Proofs.YtnjamgmaclmlpaaDoor
open Go.RowKit

theorem Blk.set4 {w : World} {g : Nat} {t : TypeId} {y0 y1 y2 y3 : Value} (h : Blk w g t #[y0, y1, y2, y3]) (x0 x1 x2 x3 : Value) :
    Blk ((((w.setCell ⟨g, 0, none⟩ x0).setCell ⟨g, 1, none⟩ x1).setCell ⟨g, 2, none⟩ x2).setCell ⟨g, 3, none⟩ x3) g t #[x0, x1, x2, x3] := by
  have := (((h.set_ 0 x0).set_ 1 x1).set_ 2 x2).set_ 3 x3
  have e : (((#[y0, y1, y2, y3].setIfInBounds 0 x0).setIfInBounds 1 x1).setIfInBounds 2 x2).setIfInBounds 3 x3 = #[x0, x1, x2, x3] := by simp
  rw [e] at this
  exact this
theorem below_set4 {B : Nat} {a w : World} (h : Below B a w) {g : Nat} (hg : B ≤ g) (x0 x1 x2 x3 : Value) :
    Below B a ((((w.setCell ⟨g, 0, none⟩ x0).setCell ⟨g, 1, none⟩ x1).setCell ⟨g, 2, none⟩ x2).setCell ⟨g, 3, none⟩ x3) :=
  (((h.setCell (p := ⟨g, 0, none⟩) hg _).setCell (p := ⟨g, 1, none⟩) hg _).setCell (p := ⟨g, 2, none⟩) hg _).setCell (p := ⟨g, 3, none⟩) hg _
theorem counts_parts {l : List Int} (h : Venn.countsChk l = 0) : (∀ x ∈ l, 0 ≤ x) ∧ l.sum ≤ 6 := by
  unfold Venn.countsChk at h
  split at h
  · rename_i ha
    split at h
    · cases h
    · refine ⟨fun x hx => ?_, by omega⟩
      have := List.all_eq_true.1 ha x hx
      simp only [Venn.things, Bool.and_eq_true, decide_eq_true_eq] at this
      exact this.1
  · cases h

set_option maxHeartbeats 2000000 in
set_option maxRecDepth 100000 in
theorem fields_World (n0 n1 n2 n3 n4 n5 n6 n7 : Int) (w : World) :
    Calls Tryd.prog 25 #[.agg #[.int .i64 n0, .int .i64 n1, .int .i64 n2, .int .i64 n3, .int .i64 n4, .int .i64 n5, .int .i64 n6, .int .i64 n7]] w
      (Keeps (.tuple #[.agg #[.int .i64 (Venn.worldOfV [n0, n1, n2, n3, n4, n5, n6, n7]).things, .int .i64 (Venn.worldOfV [n0, n1, n2, n3, n4, n5, n6, n7]).a, .int .i64 (Venn.worldOfV [n0, n1, n2, n3, n4, n5, n6, n7]).b, .int .i64 (Venn.worldOfV [n0, n1, n2, n3, n4, n5, n6, n7]).c], errV (Venn.countsChk [n0, n1, n2, n3, n4, n5, n6, n7])]) w) := by
  by_cases h : Venn.countsChk [n0, n1, n2, n3, n4, n5, n6, n7] = 0
  · have HX := Lib.hid (errV_zero h)
    obtain ⟨hp, hs⟩ := counts_parts h
    have HM := Lib.hid (fun W => fields_Made n0 n1 n2 n3 n4 n5 n6 n7 W hp hs)
    have hW : Venn.worldOfV [n0, n1, n2, n3, n4, n5, n6, n7] = Venn.made [n0, n1, n2, n3, n4, n5, n6, n7] := if_pos h
    rw [hW, HX.out]
    generalize Venn.made [n0, n1, n2, n3, n4, n5, n6, n7] = M at HM ⊢
    obtain ⟨mt, ma, mb, mc⟩ := M
    clear h hW hp hs
    simp only at HM ⊢
    go_enter Tryd.func25, Tryd.ntmps25
    go_wp2_with (first
      | (go_at_call 59; refine (fields_Check _ _ _ _ _ _ _ _ _).mono ?_; rintro e w1 ⟨rfl, hb1⟩; rw [HX.out]; obtain ⟨BN, BZ⟩ := boxes48 hb1; obtain ⟨⟨c0, c1, c2, c3, c4, c5, c6, c7⟩, _⟩ := BN.cells8)
      | (go_at_call 63; refine (HM.out _).mono ?_; rintro e w2 ⟨rfl, hb2⟩; have BZ2 := BZ.keep hb2; obtain ⟨g0, g1, g2, g3⟩ := BZ2.cells4; have f0 := BZ2.frozen 0; have f1 := BZ2.frozen 1; have f2 := BZ2.frozen 2; have f3 := BZ2.frozen 3))
    have G := BZ2.set4 (.int .i64 mt) (.int .i64 ma) (.int .i64 mb) (.int .i64 mc)
    have GL := below_set4 (show Below w.heap.size w w2 by (repeat' (first | (with_reducible exact Below.refl _ _) | (with_reducible assumption) | (with_reducible refine Below.next ?_ (by with_reducible assumption)) | (with_reducible refine Below.drew ?_) | (with_reducible refine Below.laid ?_ _) | (with_reducible refine Below.setCell ?_ ?_ _) | (with_reducible refine size_of ?_) | (with_reducible refine Nat.le_succ_of_le ?_) | go_size))) (show w.heap.size ≤ w.heap.size + 1 by omega) (.int .i64 mt) (.int .i64 ma) (.int .i64 mb) (.int .i64 mc)
    clear g0 g1 g2 g3 f0 f1 f2 f3
    revert G GL
    generalize World.setCell _ _ _ = Wf
    intro G GL
    obtain ⟨d0, d1, d2, d3⟩ := G.cells4
    exact bodyPost_ret (v := .tuple #[.agg #[.int .i64 mt, .int .i64 ma, .int .i64 mb, .int .i64 mc], .nilIface]) (by simp [results, Tryd.results25, go_sem, d0, d1, d2, d3]) rfl ⟨rfl, GL⟩
  · have HX := Lib.hid (errV_ne h)
    have hW : Venn.worldOfV [n0, n1, n2, n3, n4, n5, n6, n7] = ⟨0, 0, 0, 0⟩ := if_neg h
    rw [hW, HX.out]
    clear h hW
    go_enter Tryd.func25, Tryd.ntmps25
    go_wp2_with (go_at_call 59; refine (fields_Check _ _ _ _ _ _ _ _ _).mono ?_; rintro e w1 ⟨rfl, hb1⟩; rw [HX.out]; obtain ⟨BN, BZ⟩ := boxes48 hb1; obtain ⟨g0, g1, g2, g3⟩ := BZ.cells4; have f0 := BZ.frozen 0; have f1 := BZ.frozen 1; have f2 := BZ.frozen 2; have f3 := BZ.frozen 3)
    have G := BZ.set4 (.int .i64 0) (.int .i64 0) (.int .i64 0) (.int .i64 0)
    have GL := below_set4 (show Below w.heap.size w w1 by (repeat' (first | (with_reducible exact Below.refl _ _) | (with_reducible assumption) | (with_reducible refine Below.next ?_ (by with_reducible assumption)) | (with_reducible refine Below.drew ?_) | (with_reducible refine Below.laid ?_ _) | (with_reducible refine Below.setCell ?_ ?_ _) | (with_reducible refine size_of ?_) | (with_reducible refine Nat.le_succ_of_le ?_) | go_size))) (show w.heap.size ≤ w.heap.size + 1 by omega) (.int .i64 0) (.int .i64 0) (.int .i64 0) (.int .i64 0)
    clear g0 g1 g2 g3 f0 f1 f2 f3
    revert G GL
    generalize World.setCell _ _ _ = Wf
    intro G GL
    obtain ⟨d0, d1, d2, d3⟩ := G.cells4
    exact bodyPost_ret (v := .tuple #[.agg #[.int .i64 0, .int .i64 0, .int .i64 0, .int .i64 0], .iface 101 (.int .i64 (Venn.countsChk [n0, n1, n2, n3, n4, n5, n6, n7]))]) (by simp [results, Tryd.results25, go_sem, d0, d1, d2, d3]) rfl ⟨rfl, GL⟩

set_option maxHeartbeats 2000000 in
set_option maxRecDepth 100000 in
theorem ref_Counts (n0 n1 n2 n3 n4 n5 n6 n7 : Int) (w : World) :
    Calls Tryd.prog 21 #[.agg #[.int .i64 n0, .int .i64 n1, .int .i64 n2, .int .i64 n3, .int .i64 n4, .int .i64 n5, .int .i64 n6, .int .i64 n7]] w (Keeps (.int .i64 (Venn.countsChk [n0, n1, n2, n3, n4, n5, n6, n7])) w) := by
  generalize hl : [n0, n1, n2, n3, n4, n5, n6, n7] = l
  obtain ⟨bx, hbx⟩ : ∃ bx : Array Value, bx = #[.int .i64 n0, .int .i64 n1, .int .i64 n2, .int .i64 n3, .int .i64 n4, .int .i64 n5, .int .i64 n6, .int .i64 n7] := ⟨_, rfl⟩
  have hidx : ∀ k (h : k < l.length), bx[k]? = some (.int .i64 l[k]) := by
    intro k hk
    subst hl hbx
    simp only [List.length_cons, List.length_nil] at hk
    rcases (by omega : k = 0 ∨ k = 1 ∨ k = 2 ∨ k = 3 ∨ k = 4 ∨ k = 5 ∨ k = 6 ∨ k = 7) with rfl | rfl | rfl | rfl | rfl | rfl | rfl | rfl
    all_goals rfl
  have hlen : l.length = 8 := by subst hl; rfl
  have HI := Lib.hid hidx
  have HBX := Lib.hid hbx
  obtain ⟨E, hE⟩ : ∃ E, E = Venn.countsChk l := ⟨_, rfl⟩
  rw [← hE]
  have HE := Lib.hid (show E = if l.all Venn.things = true then (if 6 < l.sum then 4 else 0) else 1 from hE)
  clear hl hidx hbx hE
  go_enter Tryd.func21, Tryd.ntmps21
  go_wp2
  go_loopw [3, 4] (fun s i wr => ∃ (k : Nat) (S : Int), k ≤ 8 ∧ i = .int .i64 k ∧ s = .int .i64 S ∧ 0 ≤ S ∧ S ≤ 6 * k ∧ Below w.heap.size w wr ∧ Blk wr w.heap.size 23 bx ∧ l.sum = S + (l.drop k).sum ∧ l.all Venn.things = (l.drop k).all Venn.things)
    (fun _ i _ => 8 - (intOf i).toNat)
  case atStart => exact ⟨0, 0, by omega, rfl, rfl, by omega, by omega, by (repeat' (first | (with_reducible exact Below.refl _ _) | (with_reducible assumption) | (with_reducible refine Below.next ?_ (by with_reducible assumption)) | (with_reducible refine Below.drew ?_) | (with_reducible refine Below.laid ?_ _) | (with_reducible refine Below.setCell ?_ ?_ _) | (with_reducible refine size_of ?_) | (with_reducible refine Nat.le_succ_of_le ?_) | go_size)), by rw [HBX.out]; exact Blk.new _ _ _, by simp, by simp⟩
  case round =>
    obtain ⟨k, S, hk, rfl, rfl, hS0, hS6, hb, hB, hsum, hall⟩ := hrel
    obtain ⟨wo, rfl⟩ : ∃ wo : World, wo = wr := ⟨_, rfl⟩
    have HSU := Lib.hid hsum
    have HAL := Lib.hid hall
    clear hsum hall
    by_cases hlt : k < 8
    · have hkl : k < l.length := by omega
      have HD := Lib.hid (List.drop_eq_getElem_cons hkl)
      have hbox := HI.out k hkl
      generalize l[k] = x at hbox HD
      have hcell : wo.cell? ⟨w.heap.size, k, none⟩ = some (.int .i64 x) := (hB.cell k).trans hbox
      have hlb := hB.lt
      have hk1 : (k : Int) < 8 := by omega
      have hk0 : (0 : Int) ≤ (k : Int) := by omega
      have HBOX := Lib.hid hbox
      clear hbox
      by_cases hx : 0 ≤ x ∧ x ≤ 6
      · have ht : Venn.things x = true := by simp [Venn.things]; omega
        have HN := Lib.hid (show l.sum = (S + x) + (l.drop (k + 1)).sum by rw [HSU.out, HD.out, List.sum_cons]; omega)
        have HA := Lib.hid (show l.all Venn.things = (l.drop (k + 1)).all Venn.things by rw [HAL.out, HD.out, List.all_cons, ht, Bool.true_and])
        have hw : IntKind.i64.wrap (S + x) = S + x := IntWalk.i64_in _ (by omega)
        obtain ⟨hx0, hx6⟩ := hx
        have hx0' : ¬ x < 0 := by omega
        have hx6' : ¬ 6 < x := by omega
        clear ht
        go_wp2
        go_roundw
        case rel => exact ⟨k + 1, S + x, by omega, by go_num, by go_num, by omega, by omega, hb, hB, HN.out, HA.out⟩
        case measure => simp [intOf]; omega
      · have ht : Venn.things x = false := by simp [Venn.things]; omega
        have HV := Lib.hid (show E = 1 by rw [HE.out, if_neg (by rw [HAL.out, HD.out, List.all_cons, ht]; simp)])
        clear ht
        rcases (by omega : x < 0 ∨ (¬ x < 0 ∧ 6 < x)) with hx0 | ⟨hx0, hx6⟩
        all_goals
          clear hx
          go_wp2
          go_ret
          exact ⟨ret_int HV.out.symm, hb⟩
    · have hk8 : k = 8 := by omega
      subst hk8
      have hd : l.drop 8 = [] := List.drop_eq_nil_of_le (by omega)
      have HS := Lib.hid (show l.sum = S by rw [HSU.out, hd]; simp)
      have HV := Lib.hid (show E = if 6 < S then 4 else 0 by rw [HE.out, if_pos (by rw [HAL.out, hd]; rfl), HS.out])
      clear hd
      by_cases h6 : 6 < S
      · go_wp2
        go_ret
        exact ⟨ret_int (by rw [HV.out, if_pos (by omega)]), hb⟩
      · go_wp2
        go_ret
        exact ⟨ret_int (by rw [HV.out, if_neg (by omega)]), hb⟩

/-- The field so far, of the names ahead of q. -/
def fpart (W : Venn.World) (i : Nat) : Nat → Int
  | 0 => 0
  | 1 => Venn.toI (Venn.bit W.a i)
  | 2 => Venn.toI (Venn.bit W.a i) + 2 * Venn.toI (Venn.bit W.b i)
  | _ => Venn.toI (Venn.bit W.a i) + 2 * Venn.toI (Venn.bit W.b i) + 4 * Venn.toI (Venn.bit W.c i)
theorem fpart_three (W : Venn.World) (i : Nat) : fpart W i 3 = (Venn.fieldIn W i : Nat) := by
  unfold fpart Venn.fieldIn Venn.toI
  cases Venn.bit W.a i <;> cases Venn.bit W.b i <;> cases Venn.bit W.c i <;> rfl

end Go.Proofs.YtnjamgmaclmlpaaDoor
