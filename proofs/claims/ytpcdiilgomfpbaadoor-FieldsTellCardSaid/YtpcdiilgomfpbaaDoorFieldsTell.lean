/-
  PROVED: vennlaw1.FieldsTell answers true, at any world, counts and term. No condition beyond the card's own list. (Written by gen_fieldstell.py.)
-/
import Derived.Test.YtpcdiilgomfpbaaDoorCount
import Derived.Test.YtpcdiilgomfpbaaDoorMask
import Derived.Test.YtpcdiilgomfpbaaDoorEql
import Derived.Test.YtpcdiilgomfpbaaDoorDoorLaw
import Derived.Test.YtpcdiilgomfpbaaDoorOpenW
namespace Go.Proofs.YtpcdiilgomfpbaaDoor
open Go.ChangeShapes Go.WideShapes Go.ChangeAt Go.RowKit

set_option maxHeartbeats 8000000 in
set_option maxRecDepth 100000 in
theorem fieldsTell_walk (v : Value) (t : List Int) (th a b c n0 n1 n2 n3 n4 n5 n6 n7 : Int) (w : World) (ht : IsInts w v t) (HET : EtOk w) :
    Calls Tryd.prog 13 #[.agg #[.int .i64 th, .int .i64 a, .int .i64 b, .int .i64 c], .agg #[.int .i64 n0, .int .i64 n1, .int .i64 n2, .int .i64 n3, .int .i64 n4, .int .i64 n5, .int .i64 n6, .int .i64 n7], v] w (Keeps (.bool true) w) := by
  obtain ⟨TA, tc, rfl, ht'⟩ := ht
  have HT := Lib.hid (show IsInts w (.slice TA t.length tc) t from ⟨TA, tc, rfl, ht'⟩)
  clear ht'
  by_cases hk : Venn.worldChk ⟨th, a, b, c⟩ = 0
  · have HKZ := Lib.hid hk
    obtain ⟨m0, m1, m2, m3, m4, m5, m6, m7, hm⟩ : ∃ m0 m1 m2 m3 m4 m5 m6 m7 : Int, Venn.fieldsOf ⟨th, a, b, c⟩ = [m0, m1, m2, m3, m4, m5, m6, m7] := ⟨_, _, _, _, _, _, _, _, rfl⟩
    have HFV := Lib.hid (show fieldsV ⟨th, a, b, c⟩ = [m0, m1, m2, m3, m4, m5, m6, m7] by rw [fieldsV, if_pos hk, hm])
    have HRF := Lib.hid (fun W => ref_Fields th a b c W hk)
    rw [hm] at HRF
    simp only [cells, List.map] at HRF
    clear hk hm
    go_enter Tryd.func13, Tryd.ntmps13
    go_wp2_with fail
    refine (ref_World _ _ _ _ _).mono ?_
    rintro e w1 ⟨rfl, hb1⟩
    rw [HKZ.out]
    have BW1 := ((Blk.new w 41 #[.int .i64 th, .int .i64 a, .int .i64 b, .int .i64 c]).alloc _).keep hb1
    have BN1 := (Blk.newAt (w := w.alloc (.cells #[.int .i64 th, .int .i64 a, .int .i64 b, .int .i64 c] 41)) (g := w.heap.size + 1) (by simp) 23 #[.int .i64 n0, .int .i64 n1, .int .i64 n2, .int .i64 n3, .int .i64 n4, .int .i64 n5, .int .i64 n6, .int .i64 n7]).keep hb1
    obtain ⟨k0, k1, k2, k3⟩ := BW1.cells4
    have hl1 := BW1.lt
    have hn1 := BN1.lt
    have hbw1 : Below w.heap.size w w1 := by (repeat' (first | (with_reducible exact Below.refl _ _) | (with_reducible refine Below.next ?_ (by with_reducible assumption)) | (with_reducible refine Below.drew ?_) | (with_reducible refine Below.laid ?_ _) | (with_reducible refine Below.setCell ?_ ?_ _) | (with_reducible refine size_of ?_) | (with_reducible refine Nat.le_succ_of_le ?_) | go_size))
    clear hb1
    go_wp2_with fail
    refine (HRF.out _).mono ?_
    rintro e w2 ⟨rfl, hb2⟩
    have BW2 := (BW1.alloc _).keep hb2
    have BN2 := (BN1.alloc _).keep hb2
    have BZ2 := (Blk.new w1 23 zero8).keep hb2
    have hbw2 : Below w.heap.size w w2 := by (repeat' (first | (with_reducible exact Below.refl _ _) | (with_reducible refine Below.next ?_ (by with_reducible assumption)) | (with_reducible refine Below.drew ?_) | (with_reducible refine Below.laid ?_ _) | (with_reducible refine Below.setCell ?_ ?_ _) | (with_reducible refine size_of ?_) | (with_reducible refine Nat.le_succ_of_le ?_) | go_size))
    have hgz : w.heap.size + 1 < w1.heap.size := by omega
    clear k0 k1 k2 k3 hb2 BW1 BN1 hl1 hn1
    obtain ⟨⟨g0, g1, g2, g3, g4, g5, g6, g7⟩, e0, e1, e2, e3, e4, e5, e6, e7⟩ := BZ2.cells8
    go_upto_region 5 with (fail)
    have BW3 := BW2.far8 (p := w1.heap.size) (by omega) (.int .i64 m0) (.int .i64 m1) (.int .i64 m2) (.int .i64 m3) (.int .i64 m4) (.int .i64 m5) (.int .i64 m6) (.int .i64 m7)
    have BN3 := BN2.far8 (p := w1.heap.size) (by omega) (.int .i64 m0) (.int .i64 m1) (.int .i64 m2) (.int .i64 m3) (.int .i64 m4) (.int .i64 m5) (.int .i64 m6) (.int .i64 m7)
    have BZ3 := BZ2.set8 (.int .i64 m0) (.int .i64 m1) (.int .i64 m2) (.int .i64 m3) (.int .i64 m4) (.int .i64 m5) (.int .i64 m6) (.int .i64 m7)
    have hbw3 := below_set8 hbw2 (show w.heap.size ≤ w1.heap.size by omega) (.int .i64 m0) (.int .i64 m1) (.int .i64 m2) (.int .i64 m3) (.int .i64 m4) (.int .i64 m5) (.int .i64 m6) (.int .i64 m7)
    clear g0 g1 g2 g3 g4 g5 g6 g7 e0 e1 e2 e3 e4 e5 e6 e7 BW2 BN2 BZ2
    revert BW3 BN3 BZ3 hbw3
    generalize World.setCell _ _ _ = w3
    intro BW3 BN3 BZ3 hbw3
    obtain ⟨k0, k1, k2, k3⟩ := BW3.cells4
    have hl3 := BW3.lt
    have hz3 := BZ3.lt
    go_wp2_with fail
    refine (fields_Of _ _ _ _ _).mono ?_
    rintro e w4 ⟨rfl, hb4⟩
    rw [HFV.out, HKZ.out]
    simp only [cells, List.map]
    have BN4 := BN3.keep hb4
    have BZ4 := BZ3.keep hb4
    have hbw4 : Below w.heap.size w w4 := by (repeat' (first | (with_reducible exact Below.refl _ _) | (with_reducible refine Below.next ?_ (by with_reducible assumption)) | (with_reducible refine Below.drew ?_) | (with_reducible refine Below.laid ?_ _) | (with_reducible refine Below.setCell ?_ ?_ _) | (with_reducible refine size_of ?_) | (with_reducible refine Nat.le_succ_of_le ?_) | go_size))
    clear k0 k1 k2 k3 hl3 hz3 hb4
    go_wp2_with fail
    refine (vennsame_Error _ _ _ (HET.keep (by (repeat' (first | (with_reducible exact Below.refl _ _) | (with_reducible refine Below.next ?_ (by with_reducible assumption)) | (with_reducible refine Below.drew ?_) | (with_reducible refine Below.laid ?_ _) | (with_reducible refine Below.setCell ?_ ?_ _) | (with_reducible refine size_of ?_) | (with_reducible refine Nat.le_succ_of_le ?_) | go_size))))).mono ?_
    rintro e w5 ⟨rfl, hw5⟩
    have BX5 := (Blk.new w4 23 #[.int .i64 m0, .int .i64 m1, .int .i64 m2, .int .i64 m3, .int .i64 m4, .int .i64 m5, .int .i64 m6, .int .i64 m7]).keep hw5
    have BZ5 := (BZ4.alloc _).keep hw5
    have BN5 := (BN4.alloc _).keep hw5
    have hbw5 : Below w.heap.size w w5 := by (repeat' (first | (with_reducible exact Below.refl _ _) | (with_reducible refine Below.next ?_ (by with_reducible assumption)) | (with_reducible refine Below.drew ?_) | (with_reducible refine Below.laid ?_ _) | (with_reducible refine Below.setCell ?_ ?_ _) | (with_reducible refine size_of ?_) | (with_reducible refine Nat.le_succ_of_le ?_) | go_size))
    obtain ⟨⟨c0, c1, c2, c3, c4, c5, c6, c7⟩, _⟩ := BX5.cells8
    obtain ⟨⟨d0, d1, d2, d3, d4, d5, d6, d7⟩, _⟩ := BZ5.cells8
    obtain ⟨f0, f1, f2, f3, f4, f5, f6, f7⟩ := BN5.cells8.1
    have hq := equal_counts m0 m1 m2 m3 m4 m5 m6 m7 w5
    go_wp2_with fail
    refine (ref_Counts _ _ _ _ _ _ _ _ _).mono ?_
    rintro e w6 ⟨rfl, hb6⟩
    have BN6 := BN5.keep hb6
    have hbw6 : Below w.heap.size w w6 := by (repeat' (first | (with_reducible exact Below.refl _ _) | (with_reducible refine Below.next ?_ (by with_reducible assumption)) | (with_reducible refine Below.drew ?_) | (with_reducible refine Below.laid ?_ _) | (with_reducible refine Below.setCell ?_ ?_ _) | (with_reducible refine size_of ?_) | (with_reducible refine Nat.le_succ_of_le ?_) | go_size))
    clear hb6 hw5 BX5 BZ5 BN5 BN4 BZ4 c0 c1 c2 c3 c4 c5 c6 c7 d0 d1 d2 d3 d4 d5 d6 d7 f0 f1 f2 f3 f4 f5 f6 f7 hq
    by_cases hg : Venn.countsChk [n0, n1, n2, n3, n4, n5, n6, n7] = 0
    · have HGZ := Lib.hid hg
      have HGE := Lib.hid (errV_zero hg)
      rw [hg]
      obtain ⟨f0, f1, f2, f3, f4, f5, f6, f7⟩ := BN6.cells8.1
      have hl6 := BN6.lt
      obtain ⟨hp, hs⟩ := counts_parts hg
      have HMD := Lib.hid (fun W => ref_Made n0 n1 n2 n3 n4 n5 n6 n7 W hp hs)
      have HWV := Lib.hid (fun W => fields_World n0 n1 n2 n3 n4 n5 n6 n7 W)
      rw [show Venn.worldOfV [n0, n1, n2, n3, n4, n5, n6, n7] = Venn.made [n0, n1, n2, n3, n4, n5, n6, n7] from if_pos hg, hg] at HWV
      generalize Venn.made [n0, n1, n2, n3, n4, n5, n6, n7] = M at HMD HWV
      obtain ⟨mt, ma, mb, mc⟩ := M
      clear hg hp hs
      simp only at HMD HWV
      go_wp2_with fail
      refine (HMD.out _).mono ?_
      rintro e w7 ⟨rfl, hb7⟩
      have BN7 := (BN6.alloc _).keep hb7
      have BM7 := (Blk.new w6 41 #[.int .i64 0, .int .i64 0, .int .i64 0, .int .i64 0]).keep hb7
      have hbw7 : Below w.heap.size w w7 := by (repeat' (first | (with_reducible exact Below.refl _ _) | (with_reducible refine Below.next ?_ (by with_reducible assumption)) | (with_reducible refine Below.drew ?_) | (with_reducible refine Below.laid ?_ _) | (with_reducible refine Below.setCell ?_ ?_ _) | (with_reducible refine size_of ?_) | (with_reducible refine Nat.le_succ_of_le ?_) | go_size))
      have hgm : w.heap.size + 1 < w6.heap.size := hl6
      clear f0 f1 f2 f3 f4 f5 f6 f7 BN6 hb7 hl6
      obtain ⟨g0, g1, g2, g3⟩ := BM7.cells4
      have z0 := BM7.frozen 0
      have z1 := BM7.frozen 1
      have z2 := BM7.frozen 2
      have z3 := BM7.frozen 3
      go_upto_region 11 with (fail)
      have BN8 := (((BN7.far (p := ⟨w6.heap.size, 0, none⟩) (by show ¬ w.heap.size + 1 = w6.heap.size; omega) (.int .i64 mt)).far (p := ⟨w6.heap.size, 1, none⟩) (by show ¬ w.heap.size + 1 = w6.heap.size; omega) (.int .i64 ma)).far (p := ⟨w6.heap.size, 2, none⟩) (by show ¬ w.heap.size + 1 = w6.heap.size; omega) (.int .i64 mb)).far (p := ⟨w6.heap.size, 3, none⟩) (by show ¬ w.heap.size + 1 = w6.heap.size; omega) (.int .i64 mc)
      have BM8 := BM7.set4 (.int .i64 mt) (.int .i64 ma) (.int .i64 mb) (.int .i64 mc)
      have hbw8 := below_set4 hbw7 (show w.heap.size ≤ w6.heap.size by omega) (.int .i64 mt) (.int .i64 ma) (.int .i64 mb) (.int .i64 mc)
      clear g0 g1 g2 g3 z0 z1 z2 z3 BN7 BM7
      revert BN8 BM8 hbw8
      generalize World.setCell _ _ _ = w8
      intro BN8 BM8 hbw8
      obtain ⟨f0, f1, f2, f3, f4, f5, f6, f7⟩ := BN8.cells8.1
      have hl8 := BN8.lt
      have hm8 := BM8.lt
      go_wp2_with fail
      refine (HWV.out _).mono ?_
      rintro e w9 ⟨rfl, hb9⟩
      have BN9 := BN8.keep hb9
      have BM9 := BM8.keep hb9
      have hbw9 : Below w.heap.size w w9 := by (repeat' (first | (with_reducible exact Below.refl _ _) | (with_reducible refine Below.next ?_ (by with_reducible assumption)) | (with_reducible refine Below.drew ?_) | (with_reducible refine Below.laid ?_ _) | (with_reducible refine Below.setCell ?_ ?_ _) | (with_reducible refine size_of ?_) | (with_reducible refine Nat.le_succ_of_le ?_) | go_size))
      clear f0 f1 f2 f3 f4 f5 f6 f7 hl8 hm8 hb9 BN8 BM8
      go_wp2_with fail
      refine (vennsame_Error _ _ _ (HET.keep (by (repeat' (first | (with_reducible exact Below.refl _ _) | (with_reducible refine Below.next ?_ (by with_reducible assumption)) | (with_reducible refine Below.drew ?_) | (with_reducible refine Below.laid ?_ _) | (with_reducible refine Below.setCell ?_ ?_ _) | (with_reducible refine size_of ?_) | (with_reducible refine Nat.le_succ_of_le ?_) | go_size))))).mono ?_
      rintro e wa ⟨rfl, hwa⟩
      have BY := (Blk.new w9 41 #[.int .i64 mt, .int .i64 ma, .int .i64 mb, .int .i64 mc]).keep hwa
      have BMA := (BM9.alloc _).keep hwa
      have BNA := (BN9.alloc _).keep hwa
      have hbwa : Below w.heap.size w wa := by (repeat' (first | (with_reducible exact Below.refl _ _) | (with_reducible refine Below.next ?_ (by with_reducible assumption)) | (with_reducible refine Below.drew ?_) | (with_reducible refine Below.laid ?_ _) | (with_reducible refine Below.setCell ?_ ?_ _) | (with_reducible refine size_of ?_) | (with_reducible refine Nat.le_succ_of_le ?_) | go_size))
      obtain ⟨c0, c1, c2, c3⟩ := BY.cells4
      obtain ⟨d0, d1, d2, d3⟩ := BMA.cells4
      have hq := eql_three 9997 ma mb mc wa
      by_cases hc : Venn.termChk t = 0
      · have HCZ := Lib.hid hc
        have HCT := Lib.hid (fun W h => fields_Count (.slice TA t.length tc) t n0 n1 n2 n3 n4 n5 n6 n7 W h)
        have hcc : Venn.countChk t [n0, n1, n2, n3, n4, n5, n6, n7] = 0 := by rw [Venn.countChk, if_pos hc]; exact HGZ.out
        rw [show Venn.countV t [n0, n1, n2, n3, n4, n5, n6, n7] = Venn.countTo t [n0, n1, n2, n3, n4, n5, n6, n7] 8 from if_pos hcc, hcc] at HCT
        have HBN := Lib.hid (counts_parts HGZ.out)
        clear hc hcc
        have hbi : ∀ k, k < 8 → (#[.int .i64 n0, .int .i64 n1, .int .i64 n2, .int .i64 n3, .int .i64 n4, .int .i64 n5, .int .i64 n6, .int .i64 n7] : Array Value)[k]? = some (.int .i64 ([n0, n1, n2, n3, n4, n5, n6, n7].getD k 0)) := by
          intro k hk
          rcases (by omega : k = 0 ∨ k = 1 ∨ k = 2 ∨ k = 3 ∨ k = 4 ∨ k = 5 ∨ k = 6 ∨ k = 7) with rfl | rfl | rfl | rfl | rfl | rfl | rfl | rfl
          all_goals rfl
        have HBI := Lib.hid hbi
        clear hbi
        go_wp2_with fail
        refine (ref_Term _ t _ (HT.out.keep (by (repeat' (first | (with_reducible exact Below.refl _ _) | (with_reducible refine Below.next ?_ (by with_reducible assumption)) | (with_reducible refine Below.drew ?_) | (with_reducible refine Below.laid ?_ _) | (with_reducible refine Below.setCell ?_ ?_ _) | (with_reducible refine size_of ?_) | (with_reducible refine Nat.le_succ_of_le ?_) | go_size))))).mono ?_
        rintro e w' ⟨rfl, rfl⟩
        rw [HCZ.out]
        clear c0 c1 c2 c3 d0 d1 d2 d3 hq
        go_wp2_with fail
        go_loopw [16, 17, 18] (fun mk mn i wr => ∃ (k : Nat) (MV : Int), k ≤ 8 ∧ i = .int .i64 k ∧ mk = .int .i64 (Venn.maskTo t k) ∧ mn = .int .i64 MV ∧ Below w.heap.size w wr ∧ Blk wr (w.heap.size + 1) 23 #[.int .i64 n0, .int .i64 n1, .int .i64 n2, .int .i64 n3, .int .i64 n4, .int .i64 n5, .int .i64 n6, .int .i64 n7] ∧ MV = Venn.countTo t [n0, n1, n2, n3, n4, n5, n6, n7] k ∧ 0 ≤ MV ∧ MV ≤ 6 * k) (fun _ _ i _ => 8 - (intOf i).toNat)
        case atStart => exact ⟨0, 0, by omega, rfl, rfl, rfl, hbwa, BNA, by simp [Venn.countTo]⟩
        case round =>
          obtain ⟨k, MV, hk, rfl, rfl, rfl, hb, hB, hmv⟩ := hrel
          obtain ⟨wo, rfl⟩ : ∃ wo : World, wo = wr := ⟨_, rfl⟩
          by_cases hlt : k < 8
          · have hk1 : (k : Int) < 8 := by omega
            have hk0 : (0 : Int) ≤ (k : Int) := by omega
            have HLS := Lib.hid (fun W h => ref_Lies (.slice TA t.length tc) t k W h HCZ.out hlt)
            have HPW := Lib.hid (fun W => ref_Power (k : Int) W (by omega))
            rw [Int.toNat_natCast] at HPW
            have hmt := Venn.maskTo_lt t k
            have h2 : 2 ^ k ≤ 2 ^ 8 := Nat.pow_le_pow_right (by omega) (by omega)
            have hlb := lies_bit t k
            have HM1 := Lib.hid (show Venn.maskTo t (k + 1) = Venn.maskTo t k + Venn.lies t k * 2 ^ k from rfl)
            have hcell := fun (W : World) (h : Blk W (w.heap.size + 1) 23 #[.int .i64 n0, .int .i64 n1, .int .i64 n2, .int .i64 n3, .int .i64 n4, .int .i64 n5, .int .i64 n6, .int .i64 n7]) => (h.cell k).trans (HBI.out k hlt)
            have HC1 := Lib.hid (show Venn.countTo t [n0, n1, n2, n3, n4, n5, n6, n7] (k + 1) = Venn.countTo t [n0, n1, n2, n3, n4, n5, n6, n7] k + Venn.lies t k * [n0, n1, n2, n3, n4, n5, n6, n7].getD k 0 from rfl)
            have hx : 0 ≤ [n0, n1, n2, n3, n4, n5, n6, n7].getD k 0 ∧ [n0, n1, n2, n3, n4, n5, n6, n7].getD k 0 ≤ 6 := by
              have hm : [n0, n1, n2, n3, n4, n5, n6, n7].getD k 0 ∈ [n0, n1, n2, n3, n4, n5, n6, n7] := by rw [List.getD_eq_getElem?_getD, List.getElem?_eq_getElem (by simpa using hlt), Option.getD_some]; exact List.getElem_mem _
              have g1 := HBN.out.1 _ hm
              have g2 := Venn.le_sum _ HBN.out.1 _ hm
              have g3 := HBN.out.2
              omega
            have hp2 : ((2 : Int) ^ k) = ((2 ^ k : Nat) : Int) := by simp
            rw [hp2] at HM1 hmt
            generalize [n0, n1, n2, n3, n4, n5, n6, n7].getD k 0 = X at hcell HC1 hx
            generalize Venn.maskTo t k = MT at hmt HM1 ⊢
            obtain ⟨hmv1, hmv2, hmv3⟩ := hmv
            rw [← hmv1] at HC1
            clear hmv1
            generalize 2 ^ k = P2 at HPW HM1 h2 hmt
            cases hbt : Venn.bit (Venn.lies t k) 0
            · have HB := Lib.hid hbt
              rw [hbt] at hlb
              simp only [Bool.false_eq_true, if_false] at hlb
              rw [hlb, Int.zero_mul, Int.add_zero] at HM1
              rw [hlb, Int.zero_mul, Int.add_zero] at HC1
              clear hbt hlb
              go_wp2_with fail
              refine (HLS.out _ (HT.out.keep (by (repeat' (first | (with_reducible exact Below.refl _ _) | (with_reducible refine Below.next ?_ (by with_reducible assumption)) | (with_reducible refine Below.drew ?_) | (with_reducible refine Below.laid ?_ _) | (with_reducible refine Below.setCell ?_ ?_ _) | (with_reducible refine size_of ?_) | (with_reducible refine Nat.le_succ_of_le ?_) | go_size))))).mono ?_
              rintro e wb ⟨rfl, hwb⟩
              rw [HB.out]
              go_wp2
              go_roundw
              case rel => exact ⟨k + 1, MV, by omega, by go_num, by rw [HM1.out], rfl, by (repeat' (first | (with_reducible exact Below.refl _ _) | (with_reducible refine Below.next ?_ (by with_reducible assumption)) | (with_reducible refine Below.drew ?_) | (with_reducible refine Below.laid ?_ _) | (with_reducible refine Below.setCell ?_ ?_ _) | (with_reducible refine size_of ?_) | (with_reducible refine Nat.le_succ_of_le ?_) | go_size)), hB.keep hwb, by rw [HC1.out], by omega, by omega⟩
              case measure => simp [intOf]; omega
            · have HB := Lib.hid hbt
              rw [hbt] at hlb
              simp only [if_true] at hlb
              rw [hlb, Int.one_mul] at HM1
              rw [hlb, Int.one_mul] at HC1
              have hwm : IntKind.i64.wrap (MV + X) = MV + X := IntWalk.i64_in _ (by omega)
              have hwk : IntKind.i64.wrap (MT + (P2 : Int)) = MT + (P2 : Int) := IntWalk.i64_in _ (by omega)
              clear hbt hlb
              go_wp2_with fail
              refine (HLS.out _ (HT.out.keep (by (repeat' (first | (with_reducible exact Below.refl _ _) | (with_reducible refine Below.next ?_ (by with_reducible assumption)) | (with_reducible refine Below.drew ?_) | (with_reducible refine Below.laid ?_ _) | (with_reducible refine Below.setCell ?_ ?_ _) | (with_reducible refine size_of ?_) | (with_reducible refine Nat.le_succ_of_le ?_) | go_size))))).mono ?_
              rintro e wb ⟨rfl, hwb⟩
              rw [HB.out]
              have hBb := hB.keep hwb
              have hcb := hcell _ hBb
              go_wp2_with (go_at_call 57; refine (HPW.out _).mono ?_; rintro e w' ⟨rfl, rfl⟩)
              go_roundw
              case rel => exact ⟨k + 1, _, by omega, by go_num, by rw [HM1.out], rfl, by (repeat' (first | (with_reducible exact Below.refl _ _) | (with_reducible refine Below.next ?_ (by with_reducible assumption)) | (with_reducible refine Below.drew ?_) | (with_reducible refine Below.laid ?_ _) | (with_reducible refine Below.setCell ?_ ?_ _) | (with_reducible refine size_of ?_) | (with_reducible refine Nat.le_succ_of_le ?_) | go_size)), hBb, by rw [HC1.out], by omega, by omega⟩
              case measure => simp [intOf]; omega
          · have hk8 : k = 8 := by omega
            subst hk8
            have hk1 : ¬ ((8 : Nat) : Int) < 8 := by decide
            obtain ⟨hmv1, hmv2, hmv3⟩ := hmv
            rw [← hmv1] at HCT
            clear hmv1
            have HMM := Lib.hid (show (if Venn.termChk t = 0 then Venn.mask t else 0) = Venn.maskTo t 8 from if_pos HCZ.out)
            generalize Venn.maskTo t 8 = MT at HMM ⊢
            go_wp2_with fail
            refine (fields_Mask _ t _ (HT.out.keep (by (repeat' (first | (with_reducible exact Below.refl _ _) | (with_reducible refine Below.next ?_ (by with_reducible assumption)) | (with_reducible refine Below.drew ?_) | (with_reducible refine Below.laid ?_ _) | (with_reducible refine Below.setCell ?_ ?_ _) | (with_reducible refine size_of ?_) | (with_reducible refine Nat.le_succ_of_le ?_) | go_size))))).mono ?_
            rintro e wb ⟨rfl, hwb⟩
            rw [HMM.out, HCZ.out]
            go_wp2_with fail
            refine (vennsame_Error _ _ _ (HET.keep (by (repeat' (first | (with_reducible exact Below.refl _ _) | (with_reducible refine Below.next ?_ (by with_reducible assumption)) | (with_reducible refine Below.drew ?_) | (with_reducible refine Below.laid ?_ _) | (with_reducible refine Below.setCell ?_ ?_ _) | (with_reducible refine size_of ?_) | (with_reducible refine Nat.le_succ_of_le ?_) | go_size))))).mono ?_
            rintro e wc ⟨rfl, hwc⟩
            obtain ⟨f0, f1, f2, f3, f4, f5, f6, f7⟩ := (hB.keep (w' := wc) (by (repeat' (first | (with_reducible exact Below.refl _ _) | (with_reducible refine Below.next ?_ (by with_reducible assumption)) | (with_reducible refine Below.drew ?_) | (with_reducible refine Below.laid ?_ _) | (with_reducible refine Below.setCell ?_ ?_ _) | (with_reducible refine size_of ?_) | (with_reducible refine Nat.le_succ_of_le ?_) | go_size)))).cells8.1
            go_wp2_with fail
            refine (HCT.out _ (HT.out.keep (by (repeat' (first | (with_reducible exact Below.refl _ _) | (with_reducible refine Below.next ?_ (by with_reducible assumption)) | (with_reducible refine Below.drew ?_) | (with_reducible refine Below.laid ?_ _) | (with_reducible refine Below.setCell ?_ ?_ _) | (with_reducible refine size_of ?_) | (with_reducible refine Nat.le_succ_of_le ?_) | go_size))))).mono ?_
            rintro e wd ⟨rfl, hwd⟩
            go_wp2_with fail
            refine (vennsame_Error _ _ _ (HET.keep (by (repeat' (first | (with_reducible exact Below.refl _ _) | (with_reducible refine Below.next ?_ (by with_reducible assumption)) | (with_reducible refine Below.drew ?_) | (with_reducible refine Below.laid ?_ _) | (with_reducible refine Below.setCell ?_ ?_ _) | (with_reducible refine size_of ?_) | (with_reducible refine Nat.le_succ_of_le ?_) | go_size))))).mono ?_
            rintro e we ⟨rfl, hwe⟩
            go_wp2
            go_ret
            exact ⟨by simp, by (repeat' (first | (with_reducible exact Below.refl _ _) | (with_reducible refine Below.next ?_ (by with_reducible assumption)) | (with_reducible refine Below.drew ?_) | (with_reducible refine Below.laid ?_ _) | (with_reducible refine Below.setCell ?_ ?_ _) | (with_reducible refine size_of ?_) | (with_reducible refine Nat.le_succ_of_le ?_) | go_size))⟩
      · have hc1 : (Venn.termChk t == 0) = false := by simpa using hc
        have hc2 : (Venn.termChk t != 0) = true := by simpa using hc
        have HRT := Lib.hid (fun W h => ref_Term (.slice TA t.length tc) t W h)
        have HMK := Lib.hid (fun W h => fields_Mask (.slice TA t.length tc) t W h)
        have HCT := Lib.hid (fun W h => fields_Count (.slice TA t.length tc) t n0 n1 n2 n3 n4 n5 n6 n7 W h)
        rw [if_neg hc] at HMK
        rw [show Venn.countV t [n0, n1, n2, n3, n4, n5, n6, n7] = 0 by rw [Venn.countV, if_neg (by rw [Venn.countChk, if_neg hc]; exact hc)], show Venn.countChk t [n0, n1, n2, n3, n4, n5, n6, n7] = Venn.termChk t from if_neg hc] at HCT
        clear hc
        generalize Venn.termChk t = KC at hc1 hc2 HRT HMK HCT
        go_wp2_with fail
        refine (HRT.out _ (HT.out.keep (by (repeat' (first | (with_reducible exact Below.refl _ _) | (with_reducible refine Below.next ?_ (by with_reducible assumption)) | (with_reducible refine Below.drew ?_) | (with_reducible refine Below.laid ?_ _) | (with_reducible refine Below.setCell ?_ ?_ _) | (with_reducible refine size_of ?_) | (with_reducible refine Nat.le_succ_of_le ?_) | go_size))))).mono ?_
        rintro e w' ⟨rfl, rfl⟩
        clear c0 c1 c2 c3 d0 d1 d2 d3 hq
        go_wp2_with fail
        refine wp_loop_rounds 1 ?_
        rw [rounds_succ]
        go_wp2_with fail
        refine (HMK.out _ (HT.out.keep (by (repeat' (first | (with_reducible exact Below.refl _ _) | (with_reducible refine Below.next ?_ (by with_reducible assumption)) | (with_reducible refine Below.drew ?_) | (with_reducible refine Below.laid ?_ _) | (with_reducible refine Below.setCell ?_ ?_ _) | (with_reducible refine size_of ?_) | (with_reducible refine Nat.le_succ_of_le ?_) | go_size))))).mono ?_
        rintro e wb ⟨rfl, hwb⟩
        go_wp2_with fail
        refine (vennsame_Error _ _ _ (HET.keep (by (repeat' (first | (with_reducible exact Below.refl _ _) | (with_reducible refine Below.next ?_ (by with_reducible assumption)) | (with_reducible refine Below.drew ?_) | (with_reducible refine Below.laid ?_ _) | (with_reducible refine Below.setCell ?_ ?_ _) | (with_reducible refine size_of ?_) | (with_reducible refine Nat.le_succ_of_le ?_) | go_size))))).mono ?_
        rintro e wc ⟨rfl, hwc⟩
        obtain ⟨f0, f1, f2, f3, f4, f5, f6, f7⟩ := (BNA.keep (w' := wc) (by (repeat' (first | (with_reducible exact Below.refl _ _) | (with_reducible refine Below.next ?_ (by with_reducible assumption)) | (with_reducible refine Below.drew ?_) | (with_reducible refine Below.laid ?_ _) | (with_reducible refine Below.setCell ?_ ?_ _) | (with_reducible refine size_of ?_) | (with_reducible refine Nat.le_succ_of_le ?_) | go_size)))).cells8.1
        go_wp2_with fail
        refine (HCT.out _ (HT.out.keep (by (repeat' (first | (with_reducible exact Below.refl _ _) | (with_reducible refine Below.next ?_ (by with_reducible assumption)) | (with_reducible refine Below.drew ?_) | (with_reducible refine Below.laid ?_ _) | (with_reducible refine Below.setCell ?_ ?_ _) | (with_reducible refine size_of ?_) | (with_reducible refine Nat.le_succ_of_le ?_) | go_size))))).mono ?_
        rintro e wd ⟨rfl, hwd⟩
        go_wp2_with fail
        refine (vennsame_Error _ _ _ (HET.keep (by (repeat' (first | (with_reducible exact Below.refl _ _) | (with_reducible refine Below.next ?_ (by with_reducible assumption)) | (with_reducible refine Below.drew ?_) | (with_reducible refine Below.laid ?_ _) | (with_reducible refine Below.setCell ?_ ?_ _) | (with_reducible refine size_of ?_) | (with_reducible refine Nat.le_succ_of_le ?_) | go_size))))).mono ?_
        rintro e we ⟨rfl, hwe⟩
        go_wp2
        go_ret
        exact ⟨by simp, by (repeat' (first | (with_reducible exact Below.refl _ _) | (with_reducible refine Below.next ?_ (by with_reducible assumption)) | (with_reducible refine Below.drew ?_) | (with_reducible refine Below.laid ?_ _) | (with_reducible refine Below.setCell ?_ ?_ _) | (with_reducible refine size_of ?_) | (with_reducible refine Nat.le_succ_of_le ?_) | go_size))⟩
    · have hg1 : (Venn.countsChk [n0, n1, n2, n3, n4, n5, n6, n7] == 0) = false := by simpa using hg
      have HGN := Lib.hid hg
      obtain ⟨f0, f1, f2, f3, f4, f5, f6, f7⟩ := BN6.cells8.1
      have hl6 := BN6.lt
      have HWV := Lib.hid (fun W => fields_World n0 n1 n2 n3 n4 n5 n6 n7 W)
      rw [show Venn.worldOfV [n0, n1, n2, n3, n4, n5, n6, n7] = ⟨0, 0, 0, 0⟩ from if_neg hg] at HWV
      clear hg
      simp only at HWV
      go_wp2_with fail
      refine (HWV.out _).mono ?_
      rintro e w9 ⟨rfl, hb9⟩
      have BN9 := (BN6.alloc _).keep hb9
      have BM9 := (Blk.new w6 41 #[.int .i64 0, .int .i64 0, .int .i64 0, .int .i64 0]).keep hb9
      have hbw9 : Below w.heap.size w w9 := by (repeat' (first | (with_reducible exact Below.refl _ _) | (with_reducible refine Below.next ?_ (by with_reducible assumption)) | (with_reducible refine Below.drew ?_) | (with_reducible refine Below.laid ?_ _) | (with_reducible refine Below.setCell ?_ ?_ _) | (with_reducible refine size_of ?_) | (with_reducible refine Nat.le_succ_of_le ?_) | go_size))
      clear f0 f1 f2 f3 f4 f5 f6 f7 hl6 hb9 BN6
      go_wp2_with fail
      refine (vennsame_Error _ _ _ (HET.keep (by (repeat' (first | (with_reducible exact Below.refl _ _) | (with_reducible refine Below.next ?_ (by with_reducible assumption)) | (with_reducible refine Below.drew ?_) | (with_reducible refine Below.laid ?_ _) | (with_reducible refine Below.setCell ?_ ?_ _) | (with_reducible refine size_of ?_) | (with_reducible refine Nat.le_succ_of_le ?_) | go_size))))).mono ?_
      rintro e wa ⟨rfl, hwa⟩
      have BY := (Blk.new w9 41 #[.int .i64 0, .int .i64 0, .int .i64 0, .int .i64 0]).keep hwa
      have BMA := (BM9.alloc _).keep hwa
      have BNA := (BN9.alloc _).keep hwa
      have hbwa : Below w.heap.size w wa := by (repeat' (first | (with_reducible exact Below.refl _ _) | (with_reducible refine Below.next ?_ (by with_reducible assumption)) | (with_reducible refine Below.drew ?_) | (with_reducible refine Below.laid ?_ _) | (with_reducible refine Below.setCell ?_ ?_ _) | (with_reducible refine size_of ?_) | (with_reducible refine Nat.le_succ_of_le ?_) | go_size))
      obtain ⟨c0, c1, c2, c3⟩ := BY.cells4
      obtain ⟨d0, d1, d2, d3⟩ := BMA.cells4
      have hq := eql_three 9997 0 0 0 wa
      by_cases hc : Venn.termChk t = 0
      · have HCZ := Lib.hid hc
        have HCT := Lib.hid (fun W h => fields_Count (.slice TA t.length tc) t n0 n1 n2 n3 n4 n5 n6 n7 W h)
        have hcc : Venn.countChk t [n0, n1, n2, n3, n4, n5, n6, n7] = Venn.countsChk [n0, n1, n2, n3, n4, n5, n6, n7] := if_pos hc
        rw [show Venn.countV t [n0, n1, n2, n3, n4, n5, n6, n7] = 0 by rw [Venn.countV, if_neg (by rw [hcc]; exact HGN.out)], hcc] at HCT
        have hg2 : (Venn.countsChk [n0, n1, n2, n3, n4, n5, n6, n7] != 0) = true := by simpa using HGN.out
        clear hc hcc
        have hbi : ∀ k, k < 8 → (#[.int .i64 n0, .int .i64 n1, .int .i64 n2, .int .i64 n3, .int .i64 n4, .int .i64 n5, .int .i64 n6, .int .i64 n7] : Array Value)[k]? = some (.int .i64 ([n0, n1, n2, n3, n4, n5, n6, n7].getD k 0)) := by
          intro k hk
          rcases (by omega : k = 0 ∨ k = 1 ∨ k = 2 ∨ k = 3 ∨ k = 4 ∨ k = 5 ∨ k = 6 ∨ k = 7) with rfl | rfl | rfl | rfl | rfl | rfl | rfl | rfl
          all_goals rfl
        have HBI := Lib.hid hbi
        clear hbi
        go_wp2_with fail
        refine (ref_Term _ t _ (HT.out.keep (by (repeat' (first | (with_reducible exact Below.refl _ _) | (with_reducible refine Below.next ?_ (by with_reducible assumption)) | (with_reducible refine Below.drew ?_) | (with_reducible refine Below.laid ?_ _) | (with_reducible refine Below.setCell ?_ ?_ _) | (with_reducible refine size_of ?_) | (with_reducible refine Nat.le_succ_of_le ?_) | go_size))))).mono ?_
        rintro e w' ⟨rfl, rfl⟩
        rw [HCZ.out]
        clear c0 c1 c2 c3 d0 d1 d2 d3 hq
        go_wp2_with fail
        go_loopw [16, 17, 18] (fun mk mn i wr => ∃ (k : Nat) (MV : Int), k ≤ 8 ∧ i = .int .i64 k ∧ mk = .int .i64 (Venn.maskTo t k) ∧ mn = .int .i64 MV ∧ Below w.heap.size w wr ∧ Blk wr (w.heap.size + 1) 23 #[.int .i64 n0, .int .i64 n1, .int .i64 n2, .int .i64 n3, .int .i64 n4, .int .i64 n5, .int .i64 n6, .int .i64 n7] ∧ True) (fun _ _ i _ => 8 - (intOf i).toNat)
        case atStart => exact ⟨0, 0, by omega, rfl, rfl, rfl, hbwa, BNA, trivial⟩
        case round =>
          obtain ⟨k, MV, hk, rfl, rfl, rfl, hb, hB, hmv⟩ := hrel
          obtain ⟨wo, rfl⟩ : ∃ wo : World, wo = wr := ⟨_, rfl⟩
          by_cases hlt : k < 8
          · have hk1 : (k : Int) < 8 := by omega
            have hk0 : (0 : Int) ≤ (k : Int) := by omega
            have HLS := Lib.hid (fun W h => ref_Lies (.slice TA t.length tc) t k W h HCZ.out hlt)
            have HPW := Lib.hid (fun W => ref_Power (k : Int) W (by omega))
            rw [Int.toNat_natCast] at HPW
            have hmt := Venn.maskTo_lt t k
            have h2 : 2 ^ k ≤ 2 ^ 8 := Nat.pow_le_pow_right (by omega) (by omega)
            have hlb := lies_bit t k
            have HM1 := Lib.hid (show Venn.maskTo t (k + 1) = Venn.maskTo t k + Venn.lies t k * 2 ^ k from rfl)
            have hcell := fun (W : World) (h : Blk W (w.heap.size + 1) 23 #[.int .i64 n0, .int .i64 n1, .int .i64 n2, .int .i64 n3, .int .i64 n4, .int .i64 n5, .int .i64 n6, .int .i64 n7]) => (h.cell k).trans (HBI.out k hlt)
            have hp2 : ((2 : Int) ^ k) = ((2 ^ k : Nat) : Int) := by simp
            rw [hp2] at HM1 hmt
            generalize [n0, n1, n2, n3, n4, n5, n6, n7].getD k 0 = X at hcell
            generalize Venn.maskTo t k = MT at hmt HM1 ⊢
            generalize 2 ^ k = P2 at HPW HM1 h2 hmt
            cases hbt : Venn.bit (Venn.lies t k) 0
            · have HB := Lib.hid hbt
              rw [hbt] at hlb
              simp only [Bool.false_eq_true, if_false] at hlb
              rw [hlb, Int.zero_mul, Int.add_zero] at HM1
              clear hbt hlb
              go_wp2_with fail
              refine (HLS.out _ (HT.out.keep (by (repeat' (first | (with_reducible exact Below.refl _ _) | (with_reducible refine Below.next ?_ (by with_reducible assumption)) | (with_reducible refine Below.drew ?_) | (with_reducible refine Below.laid ?_ _) | (with_reducible refine Below.setCell ?_ ?_ _) | (with_reducible refine size_of ?_) | (with_reducible refine Nat.le_succ_of_le ?_) | go_size))))).mono ?_
              rintro e wb ⟨rfl, hwb⟩
              rw [HB.out]
              go_wp2
              go_roundw
              case rel => exact ⟨k + 1, MV, by omega, by go_num, by rw [HM1.out], rfl, by (repeat' (first | (with_reducible exact Below.refl _ _) | (with_reducible refine Below.next ?_ (by with_reducible assumption)) | (with_reducible refine Below.drew ?_) | (with_reducible refine Below.laid ?_ _) | (with_reducible refine Below.setCell ?_ ?_ _) | (with_reducible refine size_of ?_) | (with_reducible refine Nat.le_succ_of_le ?_) | go_size)), hB.keep hwb, trivial⟩
              case measure => simp [intOf]; omega
            · have HB := Lib.hid hbt
              rw [hbt] at hlb
              simp only [if_true] at hlb
              rw [hlb, Int.one_mul] at HM1
              have hwk : IntKind.i64.wrap (MT + (P2 : Int)) = MT + (P2 : Int) := IntWalk.i64_in _ (by omega)
              clear hbt hlb
              go_wp2_with fail
              refine (HLS.out _ (HT.out.keep (by (repeat' (first | (with_reducible exact Below.refl _ _) | (with_reducible refine Below.next ?_ (by with_reducible assumption)) | (with_reducible refine Below.drew ?_) | (with_reducible refine Below.laid ?_ _) | (with_reducible refine Below.setCell ?_ ?_ _) | (with_reducible refine size_of ?_) | (with_reducible refine Nat.le_succ_of_le ?_) | go_size))))).mono ?_
              rintro e wb ⟨rfl, hwb⟩
              rw [HB.out]
              have hBb := hB.keep hwb
              have hcb := hcell _ hBb
              go_wp2_with (go_at_call 57; refine (HPW.out _).mono ?_; rintro e w' ⟨rfl, rfl⟩)
              go_roundw
              case rel => exact ⟨k + 1, _, by omega, by go_num, by rw [HM1.out], rfl, by (repeat' (first | (with_reducible exact Below.refl _ _) | (with_reducible refine Below.next ?_ (by with_reducible assumption)) | (with_reducible refine Below.drew ?_) | (with_reducible refine Below.laid ?_ _) | (with_reducible refine Below.setCell ?_ ?_ _) | (with_reducible refine size_of ?_) | (with_reducible refine Nat.le_succ_of_le ?_) | go_size)), hBb, trivial⟩
              case measure => simp [intOf]; omega
          · have hk8 : k = 8 := by omega
            subst hk8
            have hk1 : ¬ ((8 : Nat) : Int) < 8 := by decide
            have HMM := Lib.hid (show (if Venn.termChk t = 0 then Venn.mask t else 0) = Venn.maskTo t 8 from if_pos HCZ.out)
            generalize Venn.maskTo t 8 = MT at HMM ⊢
            go_wp2_with fail
            refine (fields_Mask _ t _ (HT.out.keep (by (repeat' (first | (with_reducible exact Below.refl _ _) | (with_reducible refine Below.next ?_ (by with_reducible assumption)) | (with_reducible refine Below.drew ?_) | (with_reducible refine Below.laid ?_ _) | (with_reducible refine Below.setCell ?_ ?_ _) | (with_reducible refine size_of ?_) | (with_reducible refine Nat.le_succ_of_le ?_) | go_size))))).mono ?_
            rintro e wb ⟨rfl, hwb⟩
            rw [HMM.out, HCZ.out]
            go_wp2_with fail
            refine (vennsame_Error _ _ _ (HET.keep (by (repeat' (first | (with_reducible exact Below.refl _ _) | (with_reducible refine Below.next ?_ (by with_reducible assumption)) | (with_reducible refine Below.drew ?_) | (with_reducible refine Below.laid ?_ _) | (with_reducible refine Below.setCell ?_ ?_ _) | (with_reducible refine size_of ?_) | (with_reducible refine Nat.le_succ_of_le ?_) | go_size))))).mono ?_
            rintro e wc ⟨rfl, hwc⟩
            obtain ⟨f0, f1, f2, f3, f4, f5, f6, f7⟩ := (hB.keep (w' := wc) (by (repeat' (first | (with_reducible exact Below.refl _ _) | (with_reducible refine Below.next ?_ (by with_reducible assumption)) | (with_reducible refine Below.drew ?_) | (with_reducible refine Below.laid ?_ _) | (with_reducible refine Below.setCell ?_ ?_ _) | (with_reducible refine size_of ?_) | (with_reducible refine Nat.le_succ_of_le ?_) | go_size)))).cells8.1
            go_wp2_with fail
            refine (HCT.out _ (HT.out.keep (by (repeat' (first | (with_reducible exact Below.refl _ _) | (with_reducible refine Below.next ?_ (by with_reducible assumption)) | (with_reducible refine Below.drew ?_) | (with_reducible refine Below.laid ?_ _) | (with_reducible refine Below.setCell ?_ ?_ _) | (with_reducible refine size_of ?_) | (with_reducible refine Nat.le_succ_of_le ?_) | go_size))))).mono ?_
            rintro e wd ⟨rfl, hwd⟩
            go_wp2_with fail
            refine (vennsame_Error _ _ _ (HET.keep (by (repeat' (first | (with_reducible exact Below.refl _ _) | (with_reducible refine Below.next ?_ (by with_reducible assumption)) | (with_reducible refine Below.drew ?_) | (with_reducible refine Below.laid ?_ _) | (with_reducible refine Below.setCell ?_ ?_ _) | (with_reducible refine size_of ?_) | (with_reducible refine Nat.le_succ_of_le ?_) | go_size))))).mono ?_
            rintro e we ⟨rfl, hwe⟩
            go_wp2
            go_ret
            exact ⟨by simp, by (repeat' (first | (with_reducible exact Below.refl _ _) | (with_reducible refine Below.next ?_ (by with_reducible assumption)) | (with_reducible refine Below.drew ?_) | (with_reducible refine Below.laid ?_ _) | (with_reducible refine Below.setCell ?_ ?_ _) | (with_reducible refine size_of ?_) | (with_reducible refine Nat.le_succ_of_le ?_) | go_size))⟩
      · have hc1 : (Venn.termChk t == 0) = false := by simpa using hc
        have hc2 : (Venn.termChk t != 0) = true := by simpa using hc
        have HRT := Lib.hid (fun W h => ref_Term (.slice TA t.length tc) t W h)
        have HMK := Lib.hid (fun W h => fields_Mask (.slice TA t.length tc) t W h)
        have HCT := Lib.hid (fun W h => fields_Count (.slice TA t.length tc) t n0 n1 n2 n3 n4 n5 n6 n7 W h)
        rw [if_neg hc] at HMK
        rw [show Venn.countV t [n0, n1, n2, n3, n4, n5, n6, n7] = 0 by rw [Venn.countV, if_neg (by rw [Venn.countChk, if_neg hc]; exact hc)], show Venn.countChk t [n0, n1, n2, n3, n4, n5, n6, n7] = Venn.termChk t from if_neg hc] at HCT
        clear hc
        generalize Venn.termChk t = KC at hc1 hc2 HRT HMK HCT
        go_wp2_with fail
        refine (HRT.out _ (HT.out.keep (by (repeat' (first | (with_reducible exact Below.refl _ _) | (with_reducible refine Below.next ?_ (by with_reducible assumption)) | (with_reducible refine Below.drew ?_) | (with_reducible refine Below.laid ?_ _) | (with_reducible refine Below.setCell ?_ ?_ _) | (with_reducible refine size_of ?_) | (with_reducible refine Nat.le_succ_of_le ?_) | go_size))))).mono ?_
        rintro e w' ⟨rfl, rfl⟩
        clear c0 c1 c2 c3 d0 d1 d2 d3 hq
        go_wp2_with fail
        refine wp_loop_rounds 1 ?_
        rw [rounds_succ]
        go_wp2_with fail
        refine (HMK.out _ (HT.out.keep (by (repeat' (first | (with_reducible exact Below.refl _ _) | (with_reducible refine Below.next ?_ (by with_reducible assumption)) | (with_reducible refine Below.drew ?_) | (with_reducible refine Below.laid ?_ _) | (with_reducible refine Below.setCell ?_ ?_ _) | (with_reducible refine size_of ?_) | (with_reducible refine Nat.le_succ_of_le ?_) | go_size))))).mono ?_
        rintro e wb ⟨rfl, hwb⟩
        go_wp2_with fail
        refine (vennsame_Error _ _ _ (HET.keep (by (repeat' (first | (with_reducible exact Below.refl _ _) | (with_reducible refine Below.next ?_ (by with_reducible assumption)) | (with_reducible refine Below.drew ?_) | (with_reducible refine Below.laid ?_ _) | (with_reducible refine Below.setCell ?_ ?_ _) | (with_reducible refine size_of ?_) | (with_reducible refine Nat.le_succ_of_le ?_) | go_size))))).mono ?_
        rintro e wc ⟨rfl, hwc⟩
        obtain ⟨f0, f1, f2, f3, f4, f5, f6, f7⟩ := (BNA.keep (w' := wc) (by (repeat' (first | (with_reducible exact Below.refl _ _) | (with_reducible refine Below.next ?_ (by with_reducible assumption)) | (with_reducible refine Below.drew ?_) | (with_reducible refine Below.laid ?_ _) | (with_reducible refine Below.setCell ?_ ?_ _) | (with_reducible refine size_of ?_) | (with_reducible refine Nat.le_succ_of_le ?_) | go_size)))).cells8.1
        go_wp2_with fail
        refine (HCT.out _ (HT.out.keep (by (repeat' (first | (with_reducible exact Below.refl _ _) | (with_reducible refine Below.next ?_ (by with_reducible assumption)) | (with_reducible refine Below.drew ?_) | (with_reducible refine Below.laid ?_ _) | (with_reducible refine Below.setCell ?_ ?_ _) | (with_reducible refine size_of ?_) | (with_reducible refine Nat.le_succ_of_le ?_) | go_size))))).mono ?_
        rintro e wd ⟨rfl, hwd⟩
        go_wp2_with fail
        refine (vennsame_Error _ _ _ (HET.keep (by (repeat' (first | (with_reducible exact Below.refl _ _) | (with_reducible refine Below.next ?_ (by with_reducible assumption)) | (with_reducible refine Below.drew ?_) | (with_reducible refine Below.laid ?_ _) | (with_reducible refine Below.setCell ?_ ?_ _) | (with_reducible refine size_of ?_) | (with_reducible refine Nat.le_succ_of_le ?_) | go_size))))).mono ?_
        rintro e we ⟨rfl, hwe⟩
        go_wp2
        go_ret
        exact ⟨by simp, by (repeat' (first | (with_reducible exact Below.refl _ _) | (with_reducible refine Below.next ?_ (by with_reducible assumption)) | (with_reducible refine Below.drew ?_) | (with_reducible refine Below.laid ?_ _) | (with_reducible refine Below.setCell ?_ ?_ _) | (with_reducible refine size_of ?_) | (with_reducible refine Nat.le_succ_of_le ?_) | go_size))⟩
  · have HFV := Lib.hid (show fieldsV ⟨th, a, b, c⟩ = [0, 0, 0, 0, 0, 0, 0, 0] by rw [fieldsV, if_neg hk])
    have hk1 : (Venn.worldChk ⟨th, a, b, c⟩ == 0) = false := by simpa using hk
    have HRW := Lib.hid (fun W => ref_World th a b c W)
    have HFO := Lib.hid (fun W => fields_Of th a b c W)
    rw [HFV.out] at HFO
    simp only [cells, List.map] at HFO
    clear hk HFV
    generalize Venn.worldChk ⟨th, a, b, c⟩ = KK at hk1 HRW HFO
    go_enter Tryd.func13, Tryd.ntmps13
    go_wp2_with fail
    refine (HRW.out _).mono ?_
    rintro e w1 ⟨rfl, hb1⟩
    have BW1 := ((Blk.new w 41 #[.int .i64 th, .int .i64 a, .int .i64 b, .int .i64 c]).alloc _).keep hb1
    have BN1 := (Blk.newAt (w := w.alloc (.cells #[.int .i64 th, .int .i64 a, .int .i64 b, .int .i64 c] 41)) (g := w.heap.size + 1) (by simp) 23 #[.int .i64 n0, .int .i64 n1, .int .i64 n2, .int .i64 n3, .int .i64 n4, .int .i64 n5, .int .i64 n6, .int .i64 n7]).keep hb1
    obtain ⟨k0, k1, k2, k3⟩ := BW1.cells4
    have hl1 := BW1.lt
    have hn1 := BN1.lt
    have hbw1 : Below w.heap.size w w1 := by (repeat' (first | (with_reducible exact Below.refl _ _) | (with_reducible refine Below.next ?_ (by with_reducible assumption)) | (with_reducible refine Below.drew ?_) | (with_reducible refine Below.laid ?_ _) | (with_reducible refine Below.setCell ?_ ?_ _) | (with_reducible refine size_of ?_) | (with_reducible refine Nat.le_succ_of_le ?_) | go_size))
    clear hb1
    go_wp2_with fail
    refine (HFO.out _).mono ?_
    rintro e w4 ⟨rfl, hb4⟩
    have BN4 := (BN1.alloc _).keep hb4
    have BZ4 := (Blk.new w1 23 zero8).keep hb4
    have hbw4 : Below w.heap.size w w4 := by (repeat' (first | (with_reducible exact Below.refl _ _) | (with_reducible refine Below.next ?_ (by with_reducible assumption)) | (with_reducible refine Below.drew ?_) | (with_reducible refine Below.laid ?_ _) | (with_reducible refine Below.setCell ?_ ?_ _) | (with_reducible refine size_of ?_) | (with_reducible refine Nat.le_succ_of_le ?_) | go_size))
    clear k0 k1 k2 k3 hl1 hn1 hb4
    go_wp2_with fail
    refine (vennsame_Error _ _ _ (HET.keep (by (repeat' (first | (with_reducible exact Below.refl _ _) | (with_reducible refine Below.next ?_ (by with_reducible assumption)) | (with_reducible refine Below.drew ?_) | (with_reducible refine Below.laid ?_ _) | (with_reducible refine Below.setCell ?_ ?_ _) | (with_reducible refine size_of ?_) | (with_reducible refine Nat.le_succ_of_le ?_) | go_size))))).mono ?_
    rintro e w5 ⟨rfl, hw5⟩
    have BX5 := (Blk.new w4 23 zero8).keep hw5
    have BZ5 := (BZ4.alloc _).keep hw5
    have BN5 := (BN4.alloc _).keep hw5
    have hbw5 : Below w.heap.size w w5 := by (repeat' (first | (with_reducible exact Below.refl _ _) | (with_reducible refine Below.next ?_ (by with_reducible assumption)) | (with_reducible refine Below.drew ?_) | (with_reducible refine Below.laid ?_ _) | (with_reducible refine Below.setCell ?_ ?_ _) | (with_reducible refine size_of ?_) | (with_reducible refine Nat.le_succ_of_le ?_) | go_size))
    obtain ⟨⟨c0, c1, c2, c3, c4, c5, c6, c7⟩, _⟩ := BX5.cells8
    obtain ⟨⟨d0, d1, d2, d3, d4, d5, d6, d7⟩, _⟩ := BZ5.cells8
    obtain ⟨f0, f1, f2, f3, f4, f5, f6, f7⟩ := BN5.cells8.1
    have hq := equal_counts 0 0 0 0 0 0 0 0 w5
    go_wp2_with fail
    refine (ref_Counts _ _ _ _ _ _ _ _ _).mono ?_
    rintro e w6 ⟨rfl, hb6⟩
    have BN6 := BN5.keep hb6
    have hbw6 : Below w.heap.size w w6 := by (repeat' (first | (with_reducible exact Below.refl _ _) | (with_reducible refine Below.next ?_ (by with_reducible assumption)) | (with_reducible refine Below.drew ?_) | (with_reducible refine Below.laid ?_ _) | (with_reducible refine Below.setCell ?_ ?_ _) | (with_reducible refine size_of ?_) | (with_reducible refine Nat.le_succ_of_le ?_) | go_size))
    clear hb6 hw5 BX5 BZ5 BN5 BN4 BZ4 c0 c1 c2 c3 c4 c5 c6 c7 d0 d1 d2 d3 d4 d5 d6 d7 f0 f1 f2 f3 f4 f5 f6 f7 hq
    by_cases hg : Venn.countsChk [n0, n1, n2, n3, n4, n5, n6, n7] = 0
    · have HGZ := Lib.hid hg
      have HGE := Lib.hid (errV_zero hg)
      rw [hg]
      obtain ⟨f0, f1, f2, f3, f4, f5, f6, f7⟩ := BN6.cells8.1
      have hl6 := BN6.lt
      obtain ⟨hp, hs⟩ := counts_parts hg
      have HMD := Lib.hid (fun W => ref_Made n0 n1 n2 n3 n4 n5 n6 n7 W hp hs)
      have HWV := Lib.hid (fun W => fields_World n0 n1 n2 n3 n4 n5 n6 n7 W)
      rw [show Venn.worldOfV [n0, n1, n2, n3, n4, n5, n6, n7] = Venn.made [n0, n1, n2, n3, n4, n5, n6, n7] from if_pos hg, hg] at HWV
      generalize Venn.made [n0, n1, n2, n3, n4, n5, n6, n7] = M at HMD HWV
      obtain ⟨mt, ma, mb, mc⟩ := M
      clear hg hp hs
      simp only at HMD HWV
      go_wp2_with fail
      refine (HMD.out _).mono ?_
      rintro e w7 ⟨rfl, hb7⟩
      have BN7 := (BN6.alloc _).keep hb7
      have BM7 := (Blk.new w6 41 #[.int .i64 0, .int .i64 0, .int .i64 0, .int .i64 0]).keep hb7
      have hbw7 : Below w.heap.size w w7 := by (repeat' (first | (with_reducible exact Below.refl _ _) | (with_reducible refine Below.next ?_ (by with_reducible assumption)) | (with_reducible refine Below.drew ?_) | (with_reducible refine Below.laid ?_ _) | (with_reducible refine Below.setCell ?_ ?_ _) | (with_reducible refine size_of ?_) | (with_reducible refine Nat.le_succ_of_le ?_) | go_size))
      have hgm : w.heap.size + 1 < w6.heap.size := hl6
      clear f0 f1 f2 f3 f4 f5 f6 f7 BN6 hb7 hl6
      obtain ⟨g0, g1, g2, g3⟩ := BM7.cells4
      have z0 := BM7.frozen 0
      have z1 := BM7.frozen 1
      have z2 := BM7.frozen 2
      have z3 := BM7.frozen 3
      go_upto_region 11 with (fail)
      have BN8 := (((BN7.far (p := ⟨w6.heap.size, 0, none⟩) (by show ¬ w.heap.size + 1 = w6.heap.size; omega) (.int .i64 mt)).far (p := ⟨w6.heap.size, 1, none⟩) (by show ¬ w.heap.size + 1 = w6.heap.size; omega) (.int .i64 ma)).far (p := ⟨w6.heap.size, 2, none⟩) (by show ¬ w.heap.size + 1 = w6.heap.size; omega) (.int .i64 mb)).far (p := ⟨w6.heap.size, 3, none⟩) (by show ¬ w.heap.size + 1 = w6.heap.size; omega) (.int .i64 mc)
      have BM8 := BM7.set4 (.int .i64 mt) (.int .i64 ma) (.int .i64 mb) (.int .i64 mc)
      have hbw8 := below_set4 hbw7 (show w.heap.size ≤ w6.heap.size by omega) (.int .i64 mt) (.int .i64 ma) (.int .i64 mb) (.int .i64 mc)
      clear g0 g1 g2 g3 z0 z1 z2 z3 BN7 BM7
      revert BN8 BM8 hbw8
      generalize World.setCell _ _ _ = w8
      intro BN8 BM8 hbw8
      obtain ⟨f0, f1, f2, f3, f4, f5, f6, f7⟩ := BN8.cells8.1
      have hl8 := BN8.lt
      have hm8 := BM8.lt
      go_wp2_with fail
      refine (HWV.out _).mono ?_
      rintro e w9 ⟨rfl, hb9⟩
      have BN9 := BN8.keep hb9
      have BM9 := BM8.keep hb9
      have hbw9 : Below w.heap.size w w9 := by (repeat' (first | (with_reducible exact Below.refl _ _) | (with_reducible refine Below.next ?_ (by with_reducible assumption)) | (with_reducible refine Below.drew ?_) | (with_reducible refine Below.laid ?_ _) | (with_reducible refine Below.setCell ?_ ?_ _) | (with_reducible refine size_of ?_) | (with_reducible refine Nat.le_succ_of_le ?_) | go_size))
      clear f0 f1 f2 f3 f4 f5 f6 f7 hl8 hm8 hb9 BN8 BM8
      go_wp2_with fail
      refine (vennsame_Error _ _ _ (HET.keep (by (repeat' (first | (with_reducible exact Below.refl _ _) | (with_reducible refine Below.next ?_ (by with_reducible assumption)) | (with_reducible refine Below.drew ?_) | (with_reducible refine Below.laid ?_ _) | (with_reducible refine Below.setCell ?_ ?_ _) | (with_reducible refine size_of ?_) | (with_reducible refine Nat.le_succ_of_le ?_) | go_size))))).mono ?_
      rintro e wa ⟨rfl, hwa⟩
      have BY := (Blk.new w9 41 #[.int .i64 mt, .int .i64 ma, .int .i64 mb, .int .i64 mc]).keep hwa
      have BMA := (BM9.alloc _).keep hwa
      have BNA := (BN9.alloc _).keep hwa
      have hbwa : Below w.heap.size w wa := by (repeat' (first | (with_reducible exact Below.refl _ _) | (with_reducible refine Below.next ?_ (by with_reducible assumption)) | (with_reducible refine Below.drew ?_) | (with_reducible refine Below.laid ?_ _) | (with_reducible refine Below.setCell ?_ ?_ _) | (with_reducible refine size_of ?_) | (with_reducible refine Nat.le_succ_of_le ?_) | go_size))
      obtain ⟨c0, c1, c2, c3⟩ := BY.cells4
      obtain ⟨d0, d1, d2, d3⟩ := BMA.cells4
      have hq := eql_three 9997 ma mb mc wa
      by_cases hc : Venn.termChk t = 0
      · have HCZ := Lib.hid hc
        have HCT := Lib.hid (fun W h => fields_Count (.slice TA t.length tc) t n0 n1 n2 n3 n4 n5 n6 n7 W h)
        have hcc : Venn.countChk t [n0, n1, n2, n3, n4, n5, n6, n7] = 0 := by rw [Venn.countChk, if_pos hc]; exact HGZ.out
        rw [show Venn.countV t [n0, n1, n2, n3, n4, n5, n6, n7] = Venn.countTo t [n0, n1, n2, n3, n4, n5, n6, n7] 8 from if_pos hcc, hcc] at HCT
        have HBN := Lib.hid (counts_parts HGZ.out)
        clear hc hcc
        have hbi : ∀ k, k < 8 → (#[.int .i64 n0, .int .i64 n1, .int .i64 n2, .int .i64 n3, .int .i64 n4, .int .i64 n5, .int .i64 n6, .int .i64 n7] : Array Value)[k]? = some (.int .i64 ([n0, n1, n2, n3, n4, n5, n6, n7].getD k 0)) := by
          intro k hk
          rcases (by omega : k = 0 ∨ k = 1 ∨ k = 2 ∨ k = 3 ∨ k = 4 ∨ k = 5 ∨ k = 6 ∨ k = 7) with rfl | rfl | rfl | rfl | rfl | rfl | rfl | rfl
          all_goals rfl
        have HBI := Lib.hid hbi
        clear hbi
        go_wp2_with fail
        refine (ref_Term _ t _ (HT.out.keep (by (repeat' (first | (with_reducible exact Below.refl _ _) | (with_reducible refine Below.next ?_ (by with_reducible assumption)) | (with_reducible refine Below.drew ?_) | (with_reducible refine Below.laid ?_ _) | (with_reducible refine Below.setCell ?_ ?_ _) | (with_reducible refine size_of ?_) | (with_reducible refine Nat.le_succ_of_le ?_) | go_size))))).mono ?_
        rintro e w' ⟨rfl, rfl⟩
        rw [HCZ.out]
        clear c0 c1 c2 c3 d0 d1 d2 d3 hq
        go_wp2_with fail
        go_loopw [16, 17, 18] (fun mk mn i wr => ∃ (k : Nat) (MV : Int), k ≤ 8 ∧ i = .int .i64 k ∧ mk = .int .i64 (Venn.maskTo t k) ∧ mn = .int .i64 MV ∧ Below w.heap.size w wr ∧ Blk wr (w.heap.size + 1) 23 #[.int .i64 n0, .int .i64 n1, .int .i64 n2, .int .i64 n3, .int .i64 n4, .int .i64 n5, .int .i64 n6, .int .i64 n7] ∧ MV = Venn.countTo t [n0, n1, n2, n3, n4, n5, n6, n7] k ∧ 0 ≤ MV ∧ MV ≤ 6 * k) (fun _ _ i _ => 8 - (intOf i).toNat)
        case atStart => exact ⟨0, 0, by omega, rfl, rfl, rfl, hbwa, BNA, by simp [Venn.countTo]⟩
        case round =>
          obtain ⟨k, MV, hk, rfl, rfl, rfl, hb, hB, hmv⟩ := hrel
          obtain ⟨wo, rfl⟩ : ∃ wo : World, wo = wr := ⟨_, rfl⟩
          by_cases hlt : k < 8
          · have hk1 : (k : Int) < 8 := by omega
            have hk0 : (0 : Int) ≤ (k : Int) := by omega
            have HLS := Lib.hid (fun W h => ref_Lies (.slice TA t.length tc) t k W h HCZ.out hlt)
            have HPW := Lib.hid (fun W => ref_Power (k : Int) W (by omega))
            rw [Int.toNat_natCast] at HPW
            have hmt := Venn.maskTo_lt t k
            have h2 : 2 ^ k ≤ 2 ^ 8 := Nat.pow_le_pow_right (by omega) (by omega)
            have hlb := lies_bit t k
            have HM1 := Lib.hid (show Venn.maskTo t (k + 1) = Venn.maskTo t k + Venn.lies t k * 2 ^ k from rfl)
            have hcell := fun (W : World) (h : Blk W (w.heap.size + 1) 23 #[.int .i64 n0, .int .i64 n1, .int .i64 n2, .int .i64 n3, .int .i64 n4, .int .i64 n5, .int .i64 n6, .int .i64 n7]) => (h.cell k).trans (HBI.out k hlt)
            have HC1 := Lib.hid (show Venn.countTo t [n0, n1, n2, n3, n4, n5, n6, n7] (k + 1) = Venn.countTo t [n0, n1, n2, n3, n4, n5, n6, n7] k + Venn.lies t k * [n0, n1, n2, n3, n4, n5, n6, n7].getD k 0 from rfl)
            have hx : 0 ≤ [n0, n1, n2, n3, n4, n5, n6, n7].getD k 0 ∧ [n0, n1, n2, n3, n4, n5, n6, n7].getD k 0 ≤ 6 := by
              have hm : [n0, n1, n2, n3, n4, n5, n6, n7].getD k 0 ∈ [n0, n1, n2, n3, n4, n5, n6, n7] := by rw [List.getD_eq_getElem?_getD, List.getElem?_eq_getElem (by simpa using hlt), Option.getD_some]; exact List.getElem_mem _
              have g1 := HBN.out.1 _ hm
              have g2 := Venn.le_sum _ HBN.out.1 _ hm
              have g3 := HBN.out.2
              omega
            have hp2 : ((2 : Int) ^ k) = ((2 ^ k : Nat) : Int) := by simp
            rw [hp2] at HM1 hmt
            generalize [n0, n1, n2, n3, n4, n5, n6, n7].getD k 0 = X at hcell HC1 hx
            generalize Venn.maskTo t k = MT at hmt HM1 ⊢
            obtain ⟨hmv1, hmv2, hmv3⟩ := hmv
            rw [← hmv1] at HC1
            clear hmv1
            generalize 2 ^ k = P2 at HPW HM1 h2 hmt
            cases hbt : Venn.bit (Venn.lies t k) 0
            · have HB := Lib.hid hbt
              rw [hbt] at hlb
              simp only [Bool.false_eq_true, if_false] at hlb
              rw [hlb, Int.zero_mul, Int.add_zero] at HM1
              rw [hlb, Int.zero_mul, Int.add_zero] at HC1
              clear hbt hlb
              go_wp2_with fail
              refine (HLS.out _ (HT.out.keep (by (repeat' (first | (with_reducible exact Below.refl _ _) | (with_reducible refine Below.next ?_ (by with_reducible assumption)) | (with_reducible refine Below.drew ?_) | (with_reducible refine Below.laid ?_ _) | (with_reducible refine Below.setCell ?_ ?_ _) | (with_reducible refine size_of ?_) | (with_reducible refine Nat.le_succ_of_le ?_) | go_size))))).mono ?_
              rintro e wb ⟨rfl, hwb⟩
              rw [HB.out]
              go_wp2
              go_roundw
              case rel => exact ⟨k + 1, MV, by omega, by go_num, by rw [HM1.out], rfl, by (repeat' (first | (with_reducible exact Below.refl _ _) | (with_reducible refine Below.next ?_ (by with_reducible assumption)) | (with_reducible refine Below.drew ?_) | (with_reducible refine Below.laid ?_ _) | (with_reducible refine Below.setCell ?_ ?_ _) | (with_reducible refine size_of ?_) | (with_reducible refine Nat.le_succ_of_le ?_) | go_size)), hB.keep hwb, by rw [HC1.out], by omega, by omega⟩
              case measure => simp [intOf]; omega
            · have HB := Lib.hid hbt
              rw [hbt] at hlb
              simp only [if_true] at hlb
              rw [hlb, Int.one_mul] at HM1
              rw [hlb, Int.one_mul] at HC1
              have hwm : IntKind.i64.wrap (MV + X) = MV + X := IntWalk.i64_in _ (by omega)
              have hwk : IntKind.i64.wrap (MT + (P2 : Int)) = MT + (P2 : Int) := IntWalk.i64_in _ (by omega)
              clear hbt hlb
              go_wp2_with fail
              refine (HLS.out _ (HT.out.keep (by (repeat' (first | (with_reducible exact Below.refl _ _) | (with_reducible refine Below.next ?_ (by with_reducible assumption)) | (with_reducible refine Below.drew ?_) | (with_reducible refine Below.laid ?_ _) | (with_reducible refine Below.setCell ?_ ?_ _) | (with_reducible refine size_of ?_) | (with_reducible refine Nat.le_succ_of_le ?_) | go_size))))).mono ?_
              rintro e wb ⟨rfl, hwb⟩
              rw [HB.out]
              have hBb := hB.keep hwb
              have hcb := hcell _ hBb
              go_wp2_with (go_at_call 57; refine (HPW.out _).mono ?_; rintro e w' ⟨rfl, rfl⟩)
              go_roundw
              case rel => exact ⟨k + 1, _, by omega, by go_num, by rw [HM1.out], rfl, by (repeat' (first | (with_reducible exact Below.refl _ _) | (with_reducible refine Below.next ?_ (by with_reducible assumption)) | (with_reducible refine Below.drew ?_) | (with_reducible refine Below.laid ?_ _) | (with_reducible refine Below.setCell ?_ ?_ _) | (with_reducible refine size_of ?_) | (with_reducible refine Nat.le_succ_of_le ?_) | go_size)), hBb, by rw [HC1.out], by omega, by omega⟩
              case measure => simp [intOf]; omega
          · have hk8 : k = 8 := by omega
            subst hk8
            have hk1 : ¬ ((8 : Nat) : Int) < 8 := by decide
            obtain ⟨hmv1, hmv2, hmv3⟩ := hmv
            rw [← hmv1] at HCT
            clear hmv1
            have HMM := Lib.hid (show (if Venn.termChk t = 0 then Venn.mask t else 0) = Venn.maskTo t 8 from if_pos HCZ.out)
            generalize Venn.maskTo t 8 = MT at HMM ⊢
            go_wp2_with fail
            refine (fields_Mask _ t _ (HT.out.keep (by (repeat' (first | (with_reducible exact Below.refl _ _) | (with_reducible refine Below.next ?_ (by with_reducible assumption)) | (with_reducible refine Below.drew ?_) | (with_reducible refine Below.laid ?_ _) | (with_reducible refine Below.setCell ?_ ?_ _) | (with_reducible refine size_of ?_) | (with_reducible refine Nat.le_succ_of_le ?_) | go_size))))).mono ?_
            rintro e wb ⟨rfl, hwb⟩
            rw [HMM.out, HCZ.out]
            go_wp2_with fail
            refine (vennsame_Error _ _ _ (HET.keep (by (repeat' (first | (with_reducible exact Below.refl _ _) | (with_reducible refine Below.next ?_ (by with_reducible assumption)) | (with_reducible refine Below.drew ?_) | (with_reducible refine Below.laid ?_ _) | (with_reducible refine Below.setCell ?_ ?_ _) | (with_reducible refine size_of ?_) | (with_reducible refine Nat.le_succ_of_le ?_) | go_size))))).mono ?_
            rintro e wc ⟨rfl, hwc⟩
            obtain ⟨f0, f1, f2, f3, f4, f5, f6, f7⟩ := (hB.keep (w' := wc) (by (repeat' (first | (with_reducible exact Below.refl _ _) | (with_reducible refine Below.next ?_ (by with_reducible assumption)) | (with_reducible refine Below.drew ?_) | (with_reducible refine Below.laid ?_ _) | (with_reducible refine Below.setCell ?_ ?_ _) | (with_reducible refine size_of ?_) | (with_reducible refine Nat.le_succ_of_le ?_) | go_size)))).cells8.1
            go_wp2_with fail
            refine (HCT.out _ (HT.out.keep (by (repeat' (first | (with_reducible exact Below.refl _ _) | (with_reducible refine Below.next ?_ (by with_reducible assumption)) | (with_reducible refine Below.drew ?_) | (with_reducible refine Below.laid ?_ _) | (with_reducible refine Below.setCell ?_ ?_ _) | (with_reducible refine size_of ?_) | (with_reducible refine Nat.le_succ_of_le ?_) | go_size))))).mono ?_
            rintro e wd ⟨rfl, hwd⟩
            go_wp2_with fail
            refine (vennsame_Error _ _ _ (HET.keep (by (repeat' (first | (with_reducible exact Below.refl _ _) | (with_reducible refine Below.next ?_ (by with_reducible assumption)) | (with_reducible refine Below.drew ?_) | (with_reducible refine Below.laid ?_ _) | (with_reducible refine Below.setCell ?_ ?_ _) | (with_reducible refine size_of ?_) | (with_reducible refine Nat.le_succ_of_le ?_) | go_size))))).mono ?_
            rintro e we ⟨rfl, hwe⟩
            go_wp2
            go_ret
            exact ⟨by simp, by (repeat' (first | (with_reducible exact Below.refl _ _) | (with_reducible refine Below.next ?_ (by with_reducible assumption)) | (with_reducible refine Below.drew ?_) | (with_reducible refine Below.laid ?_ _) | (with_reducible refine Below.setCell ?_ ?_ _) | (with_reducible refine size_of ?_) | (with_reducible refine Nat.le_succ_of_le ?_) | go_size))⟩
      · have hc1 : (Venn.termChk t == 0) = false := by simpa using hc
        have hc2 : (Venn.termChk t != 0) = true := by simpa using hc
        have HRT := Lib.hid (fun W h => ref_Term (.slice TA t.length tc) t W h)
        have HMK := Lib.hid (fun W h => fields_Mask (.slice TA t.length tc) t W h)
        have HCT := Lib.hid (fun W h => fields_Count (.slice TA t.length tc) t n0 n1 n2 n3 n4 n5 n6 n7 W h)
        rw [if_neg hc] at HMK
        rw [show Venn.countV t [n0, n1, n2, n3, n4, n5, n6, n7] = 0 by rw [Venn.countV, if_neg (by rw [Venn.countChk, if_neg hc]; exact hc)], show Venn.countChk t [n0, n1, n2, n3, n4, n5, n6, n7] = Venn.termChk t from if_neg hc] at HCT
        clear hc
        generalize Venn.termChk t = KC at hc1 hc2 HRT HMK HCT
        go_wp2_with fail
        refine (HRT.out _ (HT.out.keep (by (repeat' (first | (with_reducible exact Below.refl _ _) | (with_reducible refine Below.next ?_ (by with_reducible assumption)) | (with_reducible refine Below.drew ?_) | (with_reducible refine Below.laid ?_ _) | (with_reducible refine Below.setCell ?_ ?_ _) | (with_reducible refine size_of ?_) | (with_reducible refine Nat.le_succ_of_le ?_) | go_size))))).mono ?_
        rintro e w' ⟨rfl, rfl⟩
        clear c0 c1 c2 c3 d0 d1 d2 d3 hq
        go_wp2_with fail
        refine wp_loop_rounds 1 ?_
        rw [rounds_succ]
        go_wp2_with fail
        refine (HMK.out _ (HT.out.keep (by (repeat' (first | (with_reducible exact Below.refl _ _) | (with_reducible refine Below.next ?_ (by with_reducible assumption)) | (with_reducible refine Below.drew ?_) | (with_reducible refine Below.laid ?_ _) | (with_reducible refine Below.setCell ?_ ?_ _) | (with_reducible refine size_of ?_) | (with_reducible refine Nat.le_succ_of_le ?_) | go_size))))).mono ?_
        rintro e wb ⟨rfl, hwb⟩
        go_wp2_with fail
        refine (vennsame_Error _ _ _ (HET.keep (by (repeat' (first | (with_reducible exact Below.refl _ _) | (with_reducible refine Below.next ?_ (by with_reducible assumption)) | (with_reducible refine Below.drew ?_) | (with_reducible refine Below.laid ?_ _) | (with_reducible refine Below.setCell ?_ ?_ _) | (with_reducible refine size_of ?_) | (with_reducible refine Nat.le_succ_of_le ?_) | go_size))))).mono ?_
        rintro e wc ⟨rfl, hwc⟩
        obtain ⟨f0, f1, f2, f3, f4, f5, f6, f7⟩ := (BNA.keep (w' := wc) (by (repeat' (first | (with_reducible exact Below.refl _ _) | (with_reducible refine Below.next ?_ (by with_reducible assumption)) | (with_reducible refine Below.drew ?_) | (with_reducible refine Below.laid ?_ _) | (with_reducible refine Below.setCell ?_ ?_ _) | (with_reducible refine size_of ?_) | (with_reducible refine Nat.le_succ_of_le ?_) | go_size)))).cells8.1
        go_wp2_with fail
        refine (HCT.out _ (HT.out.keep (by (repeat' (first | (with_reducible exact Below.refl _ _) | (with_reducible refine Below.next ?_ (by with_reducible assumption)) | (with_reducible refine Below.drew ?_) | (with_reducible refine Below.laid ?_ _) | (with_reducible refine Below.setCell ?_ ?_ _) | (with_reducible refine size_of ?_) | (with_reducible refine Nat.le_succ_of_le ?_) | go_size))))).mono ?_
        rintro e wd ⟨rfl, hwd⟩
        go_wp2_with fail
        refine (vennsame_Error _ _ _ (HET.keep (by (repeat' (first | (with_reducible exact Below.refl _ _) | (with_reducible refine Below.next ?_ (by with_reducible assumption)) | (with_reducible refine Below.drew ?_) | (with_reducible refine Below.laid ?_ _) | (with_reducible refine Below.setCell ?_ ?_ _) | (with_reducible refine size_of ?_) | (with_reducible refine Nat.le_succ_of_le ?_) | go_size))))).mono ?_
        rintro e we ⟨rfl, hwe⟩
        go_wp2
        go_ret
        exact ⟨by simp, by (repeat' (first | (with_reducible exact Below.refl _ _) | (with_reducible refine Below.next ?_ (by with_reducible assumption)) | (with_reducible refine Below.drew ?_) | (with_reducible refine Below.laid ?_ _) | (with_reducible refine Below.setCell ?_ ?_ _) | (with_reducible refine size_of ?_) | (with_reducible refine Nat.le_succ_of_le ?_) | go_size))⟩
    · have hg1 : (Venn.countsChk [n0, n1, n2, n3, n4, n5, n6, n7] == 0) = false := by simpa using hg
      have HGN := Lib.hid hg
      obtain ⟨f0, f1, f2, f3, f4, f5, f6, f7⟩ := BN6.cells8.1
      have hl6 := BN6.lt
      have HWV := Lib.hid (fun W => fields_World n0 n1 n2 n3 n4 n5 n6 n7 W)
      rw [show Venn.worldOfV [n0, n1, n2, n3, n4, n5, n6, n7] = ⟨0, 0, 0, 0⟩ from if_neg hg] at HWV
      clear hg
      simp only at HWV
      go_wp2_with fail
      refine (HWV.out _).mono ?_
      rintro e w9 ⟨rfl, hb9⟩
      have BN9 := (BN6.alloc _).keep hb9
      have BM9 := (Blk.new w6 41 #[.int .i64 0, .int .i64 0, .int .i64 0, .int .i64 0]).keep hb9
      have hbw9 : Below w.heap.size w w9 := by (repeat' (first | (with_reducible exact Below.refl _ _) | (with_reducible refine Below.next ?_ (by with_reducible assumption)) | (with_reducible refine Below.drew ?_) | (with_reducible refine Below.laid ?_ _) | (with_reducible refine Below.setCell ?_ ?_ _) | (with_reducible refine size_of ?_) | (with_reducible refine Nat.le_succ_of_le ?_) | go_size))
      clear f0 f1 f2 f3 f4 f5 f6 f7 hl6 hb9 BN6
      go_wp2_with fail
      refine (vennsame_Error _ _ _ (HET.keep (by (repeat' (first | (with_reducible exact Below.refl _ _) | (with_reducible refine Below.next ?_ (by with_reducible assumption)) | (with_reducible refine Below.drew ?_) | (with_reducible refine Below.laid ?_ _) | (with_reducible refine Below.setCell ?_ ?_ _) | (with_reducible refine size_of ?_) | (with_reducible refine Nat.le_succ_of_le ?_) | go_size))))).mono ?_
      rintro e wa ⟨rfl, hwa⟩
      have BY := (Blk.new w9 41 #[.int .i64 0, .int .i64 0, .int .i64 0, .int .i64 0]).keep hwa
      have BMA := (BM9.alloc _).keep hwa
      have BNA := (BN9.alloc _).keep hwa
      have hbwa : Below w.heap.size w wa := by (repeat' (first | (with_reducible exact Below.refl _ _) | (with_reducible refine Below.next ?_ (by with_reducible assumption)) | (with_reducible refine Below.drew ?_) | (with_reducible refine Below.laid ?_ _) | (with_reducible refine Below.setCell ?_ ?_ _) | (with_reducible refine size_of ?_) | (with_reducible refine Nat.le_succ_of_le ?_) | go_size))
      obtain ⟨c0, c1, c2, c3⟩ := BY.cells4
      obtain ⟨d0, d1, d2, d3⟩ := BMA.cells4
      have hq := eql_three 9997 0 0 0 wa
      by_cases hc : Venn.termChk t = 0
      · have HCZ := Lib.hid hc
        have HCT := Lib.hid (fun W h => fields_Count (.slice TA t.length tc) t n0 n1 n2 n3 n4 n5 n6 n7 W h)
        have hcc : Venn.countChk t [n0, n1, n2, n3, n4, n5, n6, n7] = Venn.countsChk [n0, n1, n2, n3, n4, n5, n6, n7] := if_pos hc
        rw [show Venn.countV t [n0, n1, n2, n3, n4, n5, n6, n7] = 0 by rw [Venn.countV, if_neg (by rw [hcc]; exact HGN.out)], hcc] at HCT
        have hg2 : (Venn.countsChk [n0, n1, n2, n3, n4, n5, n6, n7] != 0) = true := by simpa using HGN.out
        clear hc hcc
        have hbi : ∀ k, k < 8 → (#[.int .i64 n0, .int .i64 n1, .int .i64 n2, .int .i64 n3, .int .i64 n4, .int .i64 n5, .int .i64 n6, .int .i64 n7] : Array Value)[k]? = some (.int .i64 ([n0, n1, n2, n3, n4, n5, n6, n7].getD k 0)) := by
          intro k hk
          rcases (by omega : k = 0 ∨ k = 1 ∨ k = 2 ∨ k = 3 ∨ k = 4 ∨ k = 5 ∨ k = 6 ∨ k = 7) with rfl | rfl | rfl | rfl | rfl | rfl | rfl | rfl
          all_goals rfl
        have HBI := Lib.hid hbi
        clear hbi
        go_wp2_with fail
        refine (ref_Term _ t _ (HT.out.keep (by (repeat' (first | (with_reducible exact Below.refl _ _) | (with_reducible refine Below.next ?_ (by with_reducible assumption)) | (with_reducible refine Below.drew ?_) | (with_reducible refine Below.laid ?_ _) | (with_reducible refine Below.setCell ?_ ?_ _) | (with_reducible refine size_of ?_) | (with_reducible refine Nat.le_succ_of_le ?_) | go_size))))).mono ?_
        rintro e w' ⟨rfl, rfl⟩
        rw [HCZ.out]
        clear c0 c1 c2 c3 d0 d1 d2 d3 hq
        go_wp2_with fail
        go_loopw [16, 17, 18] (fun mk mn i wr => ∃ (k : Nat) (MV : Int), k ≤ 8 ∧ i = .int .i64 k ∧ mk = .int .i64 (Venn.maskTo t k) ∧ mn = .int .i64 MV ∧ Below w.heap.size w wr ∧ Blk wr (w.heap.size + 1) 23 #[.int .i64 n0, .int .i64 n1, .int .i64 n2, .int .i64 n3, .int .i64 n4, .int .i64 n5, .int .i64 n6, .int .i64 n7] ∧ True) (fun _ _ i _ => 8 - (intOf i).toNat)
        case atStart => exact ⟨0, 0, by omega, rfl, rfl, rfl, hbwa, BNA, trivial⟩
        case round =>
          obtain ⟨k, MV, hk, rfl, rfl, rfl, hb, hB, hmv⟩ := hrel
          obtain ⟨wo, rfl⟩ : ∃ wo : World, wo = wr := ⟨_, rfl⟩
          by_cases hlt : k < 8
          · have hk1 : (k : Int) < 8 := by omega
            have hk0 : (0 : Int) ≤ (k : Int) := by omega
            have HLS := Lib.hid (fun W h => ref_Lies (.slice TA t.length tc) t k W h HCZ.out hlt)
            have HPW := Lib.hid (fun W => ref_Power (k : Int) W (by omega))
            rw [Int.toNat_natCast] at HPW
            have hmt := Venn.maskTo_lt t k
            have h2 : 2 ^ k ≤ 2 ^ 8 := Nat.pow_le_pow_right (by omega) (by omega)
            have hlb := lies_bit t k
            have HM1 := Lib.hid (show Venn.maskTo t (k + 1) = Venn.maskTo t k + Venn.lies t k * 2 ^ k from rfl)
            have hcell := fun (W : World) (h : Blk W (w.heap.size + 1) 23 #[.int .i64 n0, .int .i64 n1, .int .i64 n2, .int .i64 n3, .int .i64 n4, .int .i64 n5, .int .i64 n6, .int .i64 n7]) => (h.cell k).trans (HBI.out k hlt)
            have hp2 : ((2 : Int) ^ k) = ((2 ^ k : Nat) : Int) := by simp
            rw [hp2] at HM1 hmt
            generalize [n0, n1, n2, n3, n4, n5, n6, n7].getD k 0 = X at hcell
            generalize Venn.maskTo t k = MT at hmt HM1 ⊢
            generalize 2 ^ k = P2 at HPW HM1 h2 hmt
            cases hbt : Venn.bit (Venn.lies t k) 0
            · have HB := Lib.hid hbt
              rw [hbt] at hlb
              simp only [Bool.false_eq_true, if_false] at hlb
              rw [hlb, Int.zero_mul, Int.add_zero] at HM1
              clear hbt hlb
              go_wp2_with fail
              refine (HLS.out _ (HT.out.keep (by (repeat' (first | (with_reducible exact Below.refl _ _) | (with_reducible refine Below.next ?_ (by with_reducible assumption)) | (with_reducible refine Below.drew ?_) | (with_reducible refine Below.laid ?_ _) | (with_reducible refine Below.setCell ?_ ?_ _) | (with_reducible refine size_of ?_) | (with_reducible refine Nat.le_succ_of_le ?_) | go_size))))).mono ?_
              rintro e wb ⟨rfl, hwb⟩
              rw [HB.out]
              go_wp2
              go_roundw
              case rel => exact ⟨k + 1, MV, by omega, by go_num, by rw [HM1.out], rfl, by (repeat' (first | (with_reducible exact Below.refl _ _) | (with_reducible refine Below.next ?_ (by with_reducible assumption)) | (with_reducible refine Below.drew ?_) | (with_reducible refine Below.laid ?_ _) | (with_reducible refine Below.setCell ?_ ?_ _) | (with_reducible refine size_of ?_) | (with_reducible refine Nat.le_succ_of_le ?_) | go_size)), hB.keep hwb, trivial⟩
              case measure => simp [intOf]; omega
            · have HB := Lib.hid hbt
              rw [hbt] at hlb
              simp only [if_true] at hlb
              rw [hlb, Int.one_mul] at HM1
              have hwk : IntKind.i64.wrap (MT + (P2 : Int)) = MT + (P2 : Int) := IntWalk.i64_in _ (by omega)
              clear hbt hlb
              go_wp2_with fail
              refine (HLS.out _ (HT.out.keep (by (repeat' (first | (with_reducible exact Below.refl _ _) | (with_reducible refine Below.next ?_ (by with_reducible assumption)) | (with_reducible refine Below.drew ?_) | (with_reducible refine Below.laid ?_ _) | (with_reducible refine Below.setCell ?_ ?_ _) | (with_reducible refine size_of ?_) | (with_reducible refine Nat.le_succ_of_le ?_) | go_size))))).mono ?_
              rintro e wb ⟨rfl, hwb⟩
              rw [HB.out]
              have hBb := hB.keep hwb
              have hcb := hcell _ hBb
              go_wp2_with (go_at_call 57; refine (HPW.out _).mono ?_; rintro e w' ⟨rfl, rfl⟩)
              go_roundw
              case rel => exact ⟨k + 1, _, by omega, by go_num, by rw [HM1.out], rfl, by (repeat' (first | (with_reducible exact Below.refl _ _) | (with_reducible refine Below.next ?_ (by with_reducible assumption)) | (with_reducible refine Below.drew ?_) | (with_reducible refine Below.laid ?_ _) | (with_reducible refine Below.setCell ?_ ?_ _) | (with_reducible refine size_of ?_) | (with_reducible refine Nat.le_succ_of_le ?_) | go_size)), hBb, trivial⟩
              case measure => simp [intOf]; omega
          · have hk8 : k = 8 := by omega
            subst hk8
            have hk1 : ¬ ((8 : Nat) : Int) < 8 := by decide
            have HMM := Lib.hid (show (if Venn.termChk t = 0 then Venn.mask t else 0) = Venn.maskTo t 8 from if_pos HCZ.out)
            generalize Venn.maskTo t 8 = MT at HMM ⊢
            go_wp2_with fail
            refine (fields_Mask _ t _ (HT.out.keep (by (repeat' (first | (with_reducible exact Below.refl _ _) | (with_reducible refine Below.next ?_ (by with_reducible assumption)) | (with_reducible refine Below.drew ?_) | (with_reducible refine Below.laid ?_ _) | (with_reducible refine Below.setCell ?_ ?_ _) | (with_reducible refine size_of ?_) | (with_reducible refine Nat.le_succ_of_le ?_) | go_size))))).mono ?_
            rintro e wb ⟨rfl, hwb⟩
            rw [HMM.out, HCZ.out]
            go_wp2_with fail
            refine (vennsame_Error _ _ _ (HET.keep (by (repeat' (first | (with_reducible exact Below.refl _ _) | (with_reducible refine Below.next ?_ (by with_reducible assumption)) | (with_reducible refine Below.drew ?_) | (with_reducible refine Below.laid ?_ _) | (with_reducible refine Below.setCell ?_ ?_ _) | (with_reducible refine size_of ?_) | (with_reducible refine Nat.le_succ_of_le ?_) | go_size))))).mono ?_
            rintro e wc ⟨rfl, hwc⟩
            obtain ⟨f0, f1, f2, f3, f4, f5, f6, f7⟩ := (hB.keep (w' := wc) (by (repeat' (first | (with_reducible exact Below.refl _ _) | (with_reducible refine Below.next ?_ (by with_reducible assumption)) | (with_reducible refine Below.drew ?_) | (with_reducible refine Below.laid ?_ _) | (with_reducible refine Below.setCell ?_ ?_ _) | (with_reducible refine size_of ?_) | (with_reducible refine Nat.le_succ_of_le ?_) | go_size)))).cells8.1
            go_wp2_with fail
            refine (HCT.out _ (HT.out.keep (by (repeat' (first | (with_reducible exact Below.refl _ _) | (with_reducible refine Below.next ?_ (by with_reducible assumption)) | (with_reducible refine Below.drew ?_) | (with_reducible refine Below.laid ?_ _) | (with_reducible refine Below.setCell ?_ ?_ _) | (with_reducible refine size_of ?_) | (with_reducible refine Nat.le_succ_of_le ?_) | go_size))))).mono ?_
            rintro e wd ⟨rfl, hwd⟩
            go_wp2_with fail
            refine (vennsame_Error _ _ _ (HET.keep (by (repeat' (first | (with_reducible exact Below.refl _ _) | (with_reducible refine Below.next ?_ (by with_reducible assumption)) | (with_reducible refine Below.drew ?_) | (with_reducible refine Below.laid ?_ _) | (with_reducible refine Below.setCell ?_ ?_ _) | (with_reducible refine size_of ?_) | (with_reducible refine Nat.le_succ_of_le ?_) | go_size))))).mono ?_
            rintro e we ⟨rfl, hwe⟩
            go_wp2
            go_ret
            exact ⟨by simp, by (repeat' (first | (with_reducible exact Below.refl _ _) | (with_reducible refine Below.next ?_ (by with_reducible assumption)) | (with_reducible refine Below.drew ?_) | (with_reducible refine Below.laid ?_ _) | (with_reducible refine Below.setCell ?_ ?_ _) | (with_reducible refine size_of ?_) | (with_reducible refine Nat.le_succ_of_le ?_) | go_size))⟩
      · have hc1 : (Venn.termChk t == 0) = false := by simpa using hc
        have hc2 : (Venn.termChk t != 0) = true := by simpa using hc
        have HRT := Lib.hid (fun W h => ref_Term (.slice TA t.length tc) t W h)
        have HMK := Lib.hid (fun W h => fields_Mask (.slice TA t.length tc) t W h)
        have HCT := Lib.hid (fun W h => fields_Count (.slice TA t.length tc) t n0 n1 n2 n3 n4 n5 n6 n7 W h)
        rw [if_neg hc] at HMK
        rw [show Venn.countV t [n0, n1, n2, n3, n4, n5, n6, n7] = 0 by rw [Venn.countV, if_neg (by rw [Venn.countChk, if_neg hc]; exact hc)], show Venn.countChk t [n0, n1, n2, n3, n4, n5, n6, n7] = Venn.termChk t from if_neg hc] at HCT
        clear hc
        generalize Venn.termChk t = KC at hc1 hc2 HRT HMK HCT
        go_wp2_with fail
        refine (HRT.out _ (HT.out.keep (by (repeat' (first | (with_reducible exact Below.refl _ _) | (with_reducible refine Below.next ?_ (by with_reducible assumption)) | (with_reducible refine Below.drew ?_) | (with_reducible refine Below.laid ?_ _) | (with_reducible refine Below.setCell ?_ ?_ _) | (with_reducible refine size_of ?_) | (with_reducible refine Nat.le_succ_of_le ?_) | go_size))))).mono ?_
        rintro e w' ⟨rfl, rfl⟩
        clear c0 c1 c2 c3 d0 d1 d2 d3 hq
        go_wp2_with fail
        refine wp_loop_rounds 1 ?_
        rw [rounds_succ]
        go_wp2_with fail
        refine (HMK.out _ (HT.out.keep (by (repeat' (first | (with_reducible exact Below.refl _ _) | (with_reducible refine Below.next ?_ (by with_reducible assumption)) | (with_reducible refine Below.drew ?_) | (with_reducible refine Below.laid ?_ _) | (with_reducible refine Below.setCell ?_ ?_ _) | (with_reducible refine size_of ?_) | (with_reducible refine Nat.le_succ_of_le ?_) | go_size))))).mono ?_
        rintro e wb ⟨rfl, hwb⟩
        go_wp2_with fail
        refine (vennsame_Error _ _ _ (HET.keep (by (repeat' (first | (with_reducible exact Below.refl _ _) | (with_reducible refine Below.next ?_ (by with_reducible assumption)) | (with_reducible refine Below.drew ?_) | (with_reducible refine Below.laid ?_ _) | (with_reducible refine Below.setCell ?_ ?_ _) | (with_reducible refine size_of ?_) | (with_reducible refine Nat.le_succ_of_le ?_) | go_size))))).mono ?_
        rintro e wc ⟨rfl, hwc⟩
        obtain ⟨f0, f1, f2, f3, f4, f5, f6, f7⟩ := (BNA.keep (w' := wc) (by (repeat' (first | (with_reducible exact Below.refl _ _) | (with_reducible refine Below.next ?_ (by with_reducible assumption)) | (with_reducible refine Below.drew ?_) | (with_reducible refine Below.laid ?_ _) | (with_reducible refine Below.setCell ?_ ?_ _) | (with_reducible refine size_of ?_) | (with_reducible refine Nat.le_succ_of_le ?_) | go_size)))).cells8.1
        go_wp2_with fail
        refine (HCT.out _ (HT.out.keep (by (repeat' (first | (with_reducible exact Below.refl _ _) | (with_reducible refine Below.next ?_ (by with_reducible assumption)) | (with_reducible refine Below.drew ?_) | (with_reducible refine Below.laid ?_ _) | (with_reducible refine Below.setCell ?_ ?_ _) | (with_reducible refine size_of ?_) | (with_reducible refine Nat.le_succ_of_le ?_) | go_size))))).mono ?_
        rintro e wd ⟨rfl, hwd⟩
        go_wp2_with fail
        refine (vennsame_Error _ _ _ (HET.keep (by (repeat' (first | (with_reducible exact Below.refl _ _) | (with_reducible refine Below.next ?_ (by with_reducible assumption)) | (with_reducible refine Below.drew ?_) | (with_reducible refine Below.laid ?_ _) | (with_reducible refine Below.setCell ?_ ?_ _) | (with_reducible refine size_of ?_) | (with_reducible refine Nat.le_succ_of_le ?_) | go_size))))).mono ?_
        rintro e we ⟨rfl, hwe⟩
        go_wp2
        go_ret
        exact ⟨by simp, by (repeat' (first | (with_reducible exact Below.refl _ _) | (with_reducible refine Below.next ?_ (by with_reducible assumption)) | (with_reducible refine Below.drew ?_) | (with_reducible refine Below.laid ?_ _) | (with_reducible refine Below.setCell ?_ ?_ _) | (with_reducible refine size_of ?_) | (with_reducible refine Nat.le_succ_of_le ?_) | go_size))⟩

set_option maxRecDepth 100000 in
theorem fieldsTell_contract (H : Type) (enc : TypeId × Value → H) (W : World) (base : Nat) (args : Array Value) (ds gs : List (DataW H)) (before : List MemPlace)
    (hval : ∀ (j : Nat) t v, Tryd.f13.params[j]? = some t → args[j]? = some v → Value.okWide Tryd.prog W .any base t v)
    (hW : DataW.Whole enc Tryd.prog Tryd.f13.params.toList Rows.fieldsTellSpec.vars false W args.toList ds gs before) (hL : laidMetH Tryd.prog Rows.fieldsTellRow.laid W)
    : Calls Tryd.prog 13 args W fun e W' => ∃ v, e = .returned v ∧ Rows.fieldsTellSpec.post enc Tryd.prog Tryd.f13 false true false false W args v W' := by
  have hW' := hW
  obtain ⟨p, q, hA0, hV, rfl, hfz, hnd⟩ := hW
  have hA : DataW.TrodAll enc Tryd.prog W 0 (fun _ => true) true Tryd.f13.params.toList args.toList ds p := hA0
  rw [Tryd.params13] at hA hval
  obtain ⟨v0, vs0, d0, ds0, p0, q0, hargs, rfl, rfl, h0, r0⟩ := trodAll_cons hA
  obtain ⟨v1, vs1, d1, ds1, p1, q1, rfl, rfl, rfl, h1, r1⟩ := trodAll_cons r0
  obtain ⟨v2, vs2, d2, ds2, p2, q2, rfl, rfl, rfl, h2, r2⟩ := trodAll_cons r1
  obtain ⟨rfl, rfl, rfl⟩ := trodAll_nil r2
  obtain rfl : args = #[v0, v1, v2] := by cases args; simp_all
  obtain ⟨rfl, rfl⟩ := trodVars_none hV
  have HET : EtOk W := et_of_laid hL (by repeat (first | exact List.Mem.head _ | apply List.Mem.tail))
  obtain ⟨xth, xa, xb, xc, rfl, xwf⟩ := open_world (hval 0 41 v0 rfl rfl) h0
  obtain ⟨y0, y1, y2, y3, y4, y5, y6, y7, rfl, ywf⟩ := open_counts (hval 1 23 v1 rfl rfl) h1
  obtain ⟨t, Ht, wft⟩ := open_isInts Tryd.underlying38 Tryd.underlying3 (by kernel_rfl) (hval 2 38 v2 rfl rfl) h2
  clear hA0
  refine (fieldsTell_walk v2 t xth xa xb xc y0 y1 y2 y3 y4 y5 y6 y7 W Ht HET).mono fun e W' ⟨he, hw⟩ => ?_
  subst he
  exact ⟨_, rfl, law_post laidOut Tryd.underlying4 (by kernel_rfl) rfl (by kernel_rfl) hW' rfl hw⟩

theorem fieldsTell_met (os : Os) : laidMetH Tryd.prog Rows.fieldsTellRow.laid ((World.doorLaid Tryd.prog 400 os).forCall (fun _ _ => 0) ⟨#[], #[.agg #[.int .i64 0, .int .i64 0, .int .i64 0, .int .i64 0], .agg #[.int .i64 0, .int .i64 0, .int .i64 0, .int .i64 0, .int .i64 0, .int .i64 0, .int .i64 0, .int .i64 0], .slice none 0 0], []⟩).memory :=
  laidMetH_of_parts3 (fuel := 8) (laidMet_of_run' 8 (by kernel_rfl) (by kernel_rfl)) (by kernel_rfl) (by kernel_rfl)

set_option maxRecDepth 100000 in
theorem fieldsTell_lifted (os : Os) (started : os.Started) (H : Type) (enc : TypeId × Value → H) (F : Stop.Interp) :
    ReturnsInHanded {} Tryd.checked os 13 .any ((OpenSpec.ofChange Rows.fieldsTellSpec).preRow enc Tryd.prog Tryd.f13 Rows.fieldsTellRow.domain false Rows.fieldsTellRow.laid) (((OpenSpec.ofChange Rows.fieldsTellSpec).at F).post enc Tryd.prog Tryd.f13 false true false false) := by
  refine returnsInHanded_of_row (C := Tryd.checked) (s := (OpenSpec.ofChange Rows.fieldsTellSpec)) own started (by kernel_rfl) Tryd.func13
    (witness_row_at (enc := enc) (C := Tryd.checked) false (World.doorLaid Tryd.prog 400 os) #[.agg #[.int .i64 0, .int .i64 0, .int .i64 0, .int .i64 0], .agg #[.int .i64 0, .int .i64 0, .int .i64 0, .int .i64 0, .int .i64 0, .int .i64 0, .int .i64 0, .int .i64 0], .slice none 0 0] rfl (by kernel_rfl) (by kernel_rfl) (by kernel_rfl)
      (OpenSpec.preRow_of_cond 8 (x := ([.agg [.lit (.int .i64 0), .agg [.lit (.int .i64 0), .lit (.int .i64 0), .lit (.int .i64 0)]], .agg [.lit (.int .i64 0), .lit (.int .i64 0), .lit (.int .i64 0), .lit (.int .i64 0), .lit (.int .i64 0), .lit (.int .i64 0), .lit (.int .i64 0), .lit (.int .i64 0)], .nil], [], [])) (by kernel_rfl) (by kernel_rfl) (fun k hk => by cases hk) (by kernel_rfl) (fieldsTell_met os))) ?_
  intro W base args ds gs before hval hW _ HKU _ hL _ _
  exact fieldsTell_contract H enc W base args ds gs before hval hW hL

theorem fieldsTell_said : Rows.FieldsTellSaid :=
  OpenClaim.holds_of_cond 13 Tryd.f13 rfl rfl rfl rfl rfl rfl rfl ⟨rfl, rfl, rfl, rfl, rfl⟩ rfl rfl rfl rfl rfl (by kernel_rfl) Tryd.func13 (by kernel_rfl)
    (of_decide_eq_true (by kernel_rfl)) (by unfold Func.isWrapper; first | (rw [if_pos (by decide +kernel)]; kernel_rfl) | (rw [if_neg (by decide +kernel)]; exact ⟨rfl, rfl⟩))
    (fun os started H enc _ F => by rw [OpenClaim.pre_eq_preRow]; exact fieldsTell_lifted os started H enc F)

theorem fieldsTell_plain (f : FuncId) (fn : Func) (hf : Tryd.pinned.checked.prog.funcNamed "vennhouse/vennlaw1.FieldsTell" = some f) (hfn : Tryd.pinned.checked.prog.funcs[f]? = some fn) :
    true = Tryd.pinned.checked.prog.looks [] ∧ ∀ (j : Nat) t, fn.params[j]? = some t → Tryd.pinned.checked.prog.wantsStandIn t = false := by
  obtain rfl : f = 13 := Option.some.inj ((show Tryd.prog.funcNamed "vennhouse/vennlaw1.FieldsTell" = some 13 by kernel_rfl).symm.trans hf) |>.symm
  obtain rfl : fn = Tryd.f13 := (Option.some.inj (Tryd.func13.symm.trans hfn)).symm
  refine ⟨by kernel_rfl, fun j t ht => ?_⟩
  rw [Tryd.params13] at ht
  have ht' := Array.mem_of_getElem? ht
  have hall : ∀ t ∈ (#[41, 23, 38] : Array TypeId), Tryd.prog.wantsStandIn t = false := fun t ht => by
    simp only [List.mem_toArray, List.mem_cons, List.not_mem_nil, or_false] at ht
    rcases ht with rfl | rfl | rfl
    all_goals kernel_rfl
  exact hall t ht'

theorem fieldsTell_holds : Rows.FieldsTellCardSaid :=
  Claim7.holds_tied_plain_at .later [] _ _ _ _ fieldsTell_said (fun _ h => by cases h) (by kernel_rfl) (fun _ h => by cases h) fieldsTell_row_tie rfl ⟨rfl, rfl⟩ (by kernel_rfl) rfl fieldsTell_plain (by kernel_rfl)
#print axioms fieldsTell_holds
end Go.Proofs.YtpcdiilgomfpbaaDoor
