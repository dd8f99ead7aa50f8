/-
  PROVED: vennlaw1.FitLeast answers true, at any number, rows, row and counts. No condition beyond the card's own list.
-/
import Derived.Test.YteikjcboehilpaaDoorFit
import Derived.Test.YteikjcboehilpaaDoorRowsApp
import Derived.Test.YteikjcboehilpaaDoorOpenR
import Derived.Test.YteikjcboehilpaaDoorDoorLaw
import Derived.Test.YteikjcboehilpaaDoorKindsLaw
import Derived.Deep.QuietTactic
import Derived.BigQuiet
namespace Go.Proofs.YteikjcboehilpaaDoor
open Go.ChangeShapes Go.WideShapes Go.ChangeAt Go.RowKit

theorem Rd.blk {w : World} {g : Nat} {t : TypeId} {cs : Array Value} (h : Blk w g t cs) : Rd w (some ⟨g, 0, none⟩) cs.toList := fun j u hj => by
  refine ⟨_, rfl, ?_⟩
  have hadd : (⟨g, 0, none⟩ : Addr).add j = ⟨g, j, none⟩ := by unfold Addr.add; split <;> simp_all
  rw [hadd, h.cell j]
  simpa using hj
theorem manyV_ok {u : Int} {l : List (List Int)} (h : Venn.fitChk u l = 0) : manyV u l = .tuple #[.int .i64 (Venn.manyFit u l), .nilIface] := by rw [manyV, if_pos h]
theorem manyV_ne {u : Int} {l : List (List Int)} (h : Venn.fitChk u l ≠ 0) : manyV u l = .tuple #[.int .i64 0, .iface 66 (.int .i64 (Venn.fitChk u l))] := by rw [manyV, if_neg h, errV_ne h]
theorem fitChk_nil {u : Int} (h : Venn.things u = true) : Venn.fitChk u [] = 0 := by rw [Venn.fitChk, if_pos h]; rfl

set_option maxHeartbeats 4000000 in
set_option maxRecDepth 100000 in
theorem fitLeast_walk (u : Int) (v : Value) (l : List (List Int)) (m0 m1 m2 m3 m4 m5 m6 m7 m8 n0 n1 n2 n3 n4 n5 n6 n7 : Int) (w : World) (hl : IsRows w v l) (HET : EtOk w) :
    Calls Tryd.prog 8 #[.int .i64 u, v, .agg #[.int .i64 m0, .int .i64 m1, .int .i64 m2, .int .i64 m3, .int .i64 m4, .int .i64 m5, .int .i64 m6, .int .i64 m7, .int .i64 m8], .agg #[.int .i64 n0, .int .i64 n1, .int .i64 n2, .int .i64 n3, .int .i64 n4, .int .i64 n5, .int .i64 n6, .int .i64 n7]] w (Keeps (.bool true) w) := by
  obtain ⟨A, cp, rfl, hrd, hl9, hcp, hcm⟩ := hl
  have HL : IsRows w (.slice A l.length cp) l := ⟨A, cp, rfl, hrd, hl9, hcp, hcm⟩
  have HRD := Lib.hid hrd
  have HL9 := Lib.hid hl9
  clear hrd hl9
  have M2 := Lib.hid (show manyV 2 [] = .tuple #[.int .i64 36, .nilIface] by rw [manyV_ok (by decide), Venn.many_two])
  by_cases hA : ¬ Venn.fitChk u l = 0
  · have MV := Lib.hid (manyV_ne hA)
    clear hA
    go_enter Tryd.func8, Tryd.ntmps8
    go_wp2_with fail
    refine (fit_Many 2 _ [] _ (IsRows.nil _)).mono ?_
    rintro e w1 ⟨rfl, hb1⟩
    rw [M2.out]
    go_wp2_with fail
    refine (fit_Many u _ l _ (HL.keep (by (repeat' (first | (with_reducible exact Below.refl _ _) | (with_reducible refine Below.next ?_ (by with_reducible assumption)) | (with_reducible refine Below.drew ?_) | (with_reducible refine Below.laid ?_ _) | (with_reducible refine Below.setCell ?_ ?_ _) | (with_reducible refine size_of ?_) | (with_reducible refine Nat.le_succ_of_le ?_) | go_size))))).mono ?_
    rintro e w2 ⟨rfl, hb2⟩
    rw [MV.out]
    go_wp2
    go_ret
    exact ⟨rfl, by (repeat' (first | (with_reducible exact Below.refl _ _) | (with_reducible refine Below.next ?_ (by with_reducible assumption)) | (with_reducible refine Below.drew ?_) | (with_reducible refine Below.laid ?_ _) | (with_reducible refine Below.setCell ?_ ?_ _) | (with_reducible refine size_of ?_) | (with_reducible refine Nat.le_succ_of_le ?_) | go_size))⟩
  replace hA := Decidable.not_not.1 hA
  obtain ⟨hth, hok⟩ := fit_parts hA
  have hrc : Venn.rowsChk l = 0 := by unfold Venn.fitChk at hA; rw [if_pos hth] at hA; exact hA
  have h12 : l.length ≤ 12 := by
    unfold Venn.rowsChk at hrc
    split at hrc
    · cases hrc
    · omega
  have MV := Lib.hid (manyV_ok hA)
  have MN := Lib.hid (manyV_ok (fitChk_nil hth))
  have hka := Venn.many_le_all u l
  have hsn := Venn.many_snoc u l [m0, m1, m2, m3, m4, m5, m6, m7, m8]
  have HSP := Lib.hid (Venn.first_many u l)
  have HLEAST := Lib.hid (fun x n h => @Venn.firstFit_least u l x n h)
  have HRS : ∃ (mR : Int) (ev : Value), manyV u (l ++ [[m0, m1, m2, m3, m4, m5, m6, m7, m8]]) = .tuple #[.int .i64 mR, ev] ∧ ((ev = .nilIface ∧ mR ≤ Venn.manyFit u l) ∨ ∃ z, ev = .iface 66 (.int .i64 z)) := by
    by_cases h : Venn.fitChk u (l ++ [[m0, m1, m2, m3, m4, m5, m6, m7, m8]]) = 0
    · exact ⟨_, _, manyV_ok h, .inl ⟨rfl, hsn⟩⟩
    · exact ⟨_, _, manyV_ne h, .inr ⟨_, rfl⟩⟩
  obtain ⟨mR, ev, hR1, hR2⟩ := HRS
  have HR1 := Lib.hid hR1
  have HRC := Lib.hid hrc
  have HTH := Lib.hid hth
  clear hA hok hrc hth hsn hR1
  generalize Venn.manyFit u [] = all at hka MN
  have HFV : ∃ fv fc, Venn.fitsV l [n0, n1, n2, n3, n4, n5, n6, n7] = fv ∧ Venn.fitsChk l [n0, n1, n2, n3, n4, n5, n6, n7] = fc ∧ ((fc ≠ 0) ∨ (fc = 0 ∧ ((0 ≤ n0 ∧ n0 ≤ 6) ∧ (0 ≤ n1 ∧ n1 ≤ 6) ∧ (0 ≤ n2 ∧ n2 ≤ 6) ∧ (0 ≤ n3 ∧ n3 ≤ 6) ∧ (0 ≤ n4 ∧ n4 ≤ 6) ∧ (0 ≤ n5 ∧ n5 ≤ 6) ∧ (0 ≤ n6 ∧ n6 ≤ 6) ∧ (0 ≤ n7 ∧ n7 ≤ 6)) ∧ n0 + n1 + n2 + n3 + n4 + n5 + n6 + n7 ≤ 6 ∧ fv = Venn.rowsSo l [n0, n1, n2, n3, n4, n5, n6, n7])) := by
    refine ⟨_, _, rfl, rfl, ?_⟩
    by_cases h : Venn.fitsChk l [n0, n1, n2, n3, n4, n5, n6, n7] = 0
    · have hc : Venn.countsChk [n0, n1, n2, n3, n4, n5, n6, n7] = 0 := by rw [Venn.fitsChk, if_pos HRC.out] at h; exact h
      exact .inr ⟨h, counts_bound hc, counts_sum hc, by rw [Venn.fitsV, if_pos h]⟩
    · exact .inl h
  obtain ⟨fv, fc, hf1, hf2, hf3⟩ := HFV
  have HF1 := Lib.hid hf1
  have HF2 := Lib.hid hf2
  have HF3 := Lib.hid hf3
  clear hf1 hf2 hf3
  rcases HSP.out with ⟨hff, hk0⟩ | ⟨x, hff, hk0⟩
  · have LV := Lib.hid (show leastV u l = .tuple #[.agg zero8, .iface 66 (.int .i64 5)] by rw [leastV, if_pos (by rw [Venn.fitChk, if_pos HTH.out]; exact HRC.out), hff]; rfl)
    rw [hk0] at hka hR2 MV
    have HFF := Lib.hid hff
    clear hk0 HSP hff

    go_enter Tryd.func8, Tryd.ntmps8
    go_wp2_with fail
    refine (fit_Many 2 _ [] _ (IsRows.nil _)).mono ?_
    rintro e w1 ⟨rfl, hb1⟩
    rw [M2.out]
    have BR1 := (((Blk.new w 27 #[.int .i64 m0, .int .i64 m1, .int .i64 m2, .int .i64 m3, .int .i64 m4, .int .i64 m5, .int .i64 m6, .int .i64 m7, .int .i64 m8]).alloc (.cells #[.int .i64 n0, .int .i64 n1, .int .i64 n2, .int .i64 n3, .int .i64 n4, .int .i64 n5, .int .i64 n6, .int .i64 n7] 25)).keep hb1)
    have BN1 := (Blk.newAt (w := w.alloc (.cells #[.int .i64 m0, .int .i64 m1, .int .i64 m2, .int .i64 m3, .int .i64 m4, .int .i64 m5, .int .i64 m6, .int .i64 m7, .int .i64 m8] 27)) (g := w.heap.size + 1) (by simp) 25 #[.int .i64 n0, .int .i64 n1, .int .i64 n2, .int .i64 n3, .int .i64 n4, .int .i64 n5, .int .i64 n6, .int .i64 n7]).keep hb1
    go_wp2_with fail
    refine (fit_Many u _ l _ (HL.keep (by (repeat' (first | (with_reducible exact Below.refl _ _) | (with_reducible refine Below.next ?_ (by with_reducible assumption)) | (with_reducible refine Below.drew ?_) | (with_reducible refine Below.laid ?_ _) | (with_reducible refine Below.setCell ?_ ?_ _) | (with_reducible refine size_of ?_) | (with_reducible refine Nat.le_succ_of_le ?_) | go_size))))).mono ?_
    rintro e w2 ⟨rfl, hb2⟩
    rw [MV.out]
    go_wp2_with fail
    refine (fit_Many u _ [] _ (IsRows.nil _)).mono ?_
    rintro e w3 ⟨rfl, hb3⟩
    rw [MN.out]
    go_wp2_with fail
    refine (fit_Least u _ l _ (HL.keep (by (repeat' (first | (with_reducible exact Below.refl _ _) | (with_reducible refine Below.next ?_ (by with_reducible assumption)) | (with_reducible refine Below.drew ?_) | (with_reducible refine Below.laid ?_ _) | (with_reducible refine Below.setCell ?_ ?_ _) | (with_reducible refine size_of ?_) | (with_reducible refine Nat.le_succ_of_le ?_) | go_size))))).mono ?_
    rintro e w4 ⟨rfl, hb4⟩
    rw [LV.out]
    have BR4 := ((BR1.keep hb2).keep hb3).keep hb4
    have BN4 := ((BN1.keep hb2).keep hb3).keep hb4
    have hbl : Below w.heap.size w w4 := by (repeat' (first | (with_reducible exact Below.refl _ _) | (with_reducible refine Below.next ?_ (by with_reducible assumption)) | (with_reducible refine Below.drew ?_) | (with_reducible refine Below.laid ?_ _) | (with_reducible refine Below.setCell ?_ ?_ _) | (with_reducible refine size_of ?_) | (with_reducible refine Nat.le_succ_of_le ?_) | go_size))
    clear BR1 BN1 hb1 hb2 hb3 hb4
    go_upto_region 12 with (first | (go_at_call 14; refine (vennsame_Error 5 _ _ (HET.keep (by (repeat' (first | (with_reducible exact Below.refl _ _) | (with_reducible refine Below.next ?_ (by with_reducible assumption)) | (with_reducible refine Below.drew ?_) | (with_reducible refine Below.laid ?_ _) | (with_reducible refine Below.setCell ?_ ?_ _) | (with_reducible refine size_of ?_) | (with_reducible refine Nat.le_succ_of_le ?_) | go_size))))).mono ?_; rintro e w5 ⟨rfl, hb5⟩) | fail)
    have BX5 := (Blk.new w4 25 zero8).keep hb5
    have BR5 := (BR4.alloc (.cells zero8 25)).keep hb5
    have BN5 := (BN4.alloc (.cells zero8 25)).keep hb5
    have hbl5 : Below w.heap.size w w5 := by (repeat' (first | (with_reducible exact Below.refl _ _) | (with_reducible refine Below.next ?_ (by with_reducible assumption)) | (with_reducible refine Below.drew ?_) | (with_reducible refine Below.laid ?_ _) | (with_reducible refine Below.setCell ?_ ?_ _) | (with_reducible refine size_of ?_) | (with_reducible refine Nat.le_succ_of_le ?_) | go_size))
    clear BR4 BN4 hb5 hbl
    go_wp2_with (first
      | (at_builtin; refine wpList_appRows _ rfl _ _ rfl _ _ 0 [] rfl (World.ownsRow_nil _ _ _ _) A cp l rfl (HRD.out.keep hbl5) HL9.out (by omega) (Nat.le_refl _) ?_; intro v6 w6 hown6 hg6; rw [Nat.zero_add, List.nil_append] at hown6; obtain ⟨A6, c6, rfl⟩ := ownsRow_slice hown6; have hb6 : Below w5.heap.size w5 w6 := (Below.refl _ _).grown hg6 (Nat.le_refl _) (fun g h => by cases h); obtain ⟨⟨r0, r1, r2, r3, r4, r5, r6, r7, r8⟩, _⟩ := (BR5.keep hb6).cells9; have hl6 := (BR5.keep hb6).lt)
      | (at_builtin; refine wpList_appRows _ rfl _ _ rfl w5.heap.size _ l.length (flat9 l) rfl (hown6.alloc _) (some ⟨w6.heap.size, 0, none⟩) 1 [[m0, m1, m2, m3, m4, m5, m6, m7, m8]] rfl (Rd.blk (Blk.new w6 _ _)) (by simp) (by simp; omega) (by have := hb6.size; simp; omega) ?_; intro v7 w7 hown7 hg7; have hb7 : Below w5.heap.size w5 w7 := (Below.alloc hb6 hb6.size _).grown hg7 (by have := hb6.size; simp; omega) (fun g h => (hown6.lt g h).1))
      | fail)
    have HR7 : IsRows w7 v7 (l ++ [[m0, m1, m2, m3, m4, m5, m6, m7, m8]]) := IsRows.of_own (e := 27) (base := w5.heap.size) (n := l.length + 1) (by simpa [flat9] using hown7) (by
      intro r hr
      rcases List.mem_append.1 hr with h | h
      · exact HL9.out r h
      · rw [List.mem_singleton.1 h]; rfl)
    have BN7 := BN5.keep hb7
    have BX7 := BX5.keep hb7
    have hbl7 : Below w.heap.size w w7 := Below.next hbl5 hb7
    clear hown6 hown7 hg6 hg7 hb6 hb7 BR5 BN5 BX5 hbl5 r0 r1 r2 r3 r4 r5 r6 r7 r8 hl6
    go_wp2_with fail
    refine (fit_Many u _ (l ++ [[m0, m1, m2, m3, m4, m5, m6, m7, m8]]) _ HR7).mono ?_
    rintro e w8 ⟨rfl, hb8⟩
    rw [HR1.out]
    have BN8 := BN7.keep hb8
    have BX8 := BX7.keep hb8
    have hbl8 : Below w.heap.size w w8 := Below.next hbl7 hb8
    obtain ⟨⟨c0, c1, c2, c3, c4, c5, c6', c7⟩, _⟩ := BN8.cells8
    clear HR7 BN7 BX7 hbl7 hb8
    rcases hR2 with ⟨rfl, hmk⟩ | ⟨zz, rfl⟩
    all_goals
      go_wp2_with fail
      refine (rows_Fits _ l n0 n1 n2 n3 n4 n5 n6 n7 _ (HL.keep (by (repeat' (first | (with_reducible exact Below.refl _ _) | (with_reducible refine Below.next ?_ (by with_reducible assumption)) | (with_reducible refine Below.drew ?_) | (with_reducible refine Below.laid ?_ _) | (with_reducible refine Below.setCell ?_ ?_ _) | (with_reducible refine size_of ?_) | (with_reducible refine Nat.le_succ_of_le ?_) | go_size))))).mono ?_
      rintro e w9 ⟨rfl, hb9⟩
      rw [HF1.out, HF2.out]
      have BN9 := BN8.keep hb9
      have BX9 := BX8.keep hb9
      have hbl9 : Below w.heap.size w w9 := Below.next hbl8 hb9
      obtain ⟨⟨d0, d1, d2, d3, d4, d5, d6, d7⟩, _⟩ := BN9.cells8
      rcases HF3.out with hfc | ⟨hfc, ⟨b0, b1, b2, b3, b4, b5, b6, b7⟩, hs6, hfv⟩
      · rw [errV_ne hfc]
        go_wp2
        refine wp_loop_rounds 9 ?_
        rw [rounds_succ]
        go_wp2
        rw [rounds_succ]
        go_wp2
        rw [rounds_succ]
        go_wp2
        rw [rounds_succ]
        go_wp2
        rw [rounds_succ]
        go_wp2
        rw [rounds_succ]
        go_wp2
        rw [rounds_succ]
        go_wp2
        rw [rounds_succ]
        go_wp2
        rw [rounds_succ]
        go_wp2
        go_ret
        exact ⟨rfl, hbl9⟩
      · rw [hfc, show errV 0 = .nilIface from rfl]
        have HFV := Lib.hid hfv
        clear hfv hfc
        go_wp2
        refine wp_loop_rounds 9 ?_
        rw [rounds_succ]
        go_wp2
        rw [rounds_succ]
        go_wp2
        rw [rounds_succ]
        go_wp2
        rw [rounds_succ]
        go_wp2
        rw [rounds_succ]
        go_wp2
        rw [rounds_succ]
        go_wp2
        rw [rounds_succ]
        go_wp2
        rw [rounds_succ]
        go_wp2
        rw [rounds_succ]
        by_cases hs : ¬ n0 + n1 + n2 + n3 + n4 + n5 + n6 + n7 = u
        · have hne : (n0 + n1 + n2 + n3 + n4 + n5 + n6 + n7 != u) = true := by simpa using hs
          clear hs
          go_wp2
          go_ret
          exact ⟨rfl, hbl9⟩
        replace hs := Decidable.not_not.1 hs
        have hne : (n0 + n1 + n2 + n3 + n4 + n5 + n6 + n7 != u) = false := by simpa using hs
        have HIN := Lib.hid ((Venn.mem_allC HTH.out [n0, n1, n2, n3, n4, n5, n6, n7]).2 ⟨rfl, by simp; omega, by simp; omega⟩)
        clear hs
        have hz : fv = false := by
          rw [HFV.out]
          cases h : Venn.rowsSo l [n0, n1, n2, n3, n4, n5, n6, n7]
          · rfl
          · have := List.find?_eq_none.1 HFF.out _ HIN.out
            rw [h] at this
            exact absurd rfl this
        subst hz
        go_wp2
        go_ret
        exact ⟨rfl, hbl9⟩
  · obtain ⟨a0, a1, a2, a3, a4, a5, a6, a7, rfl, xb0, xb1, xb2, xb3, xb4, xb5, xb6, xb7, xbs⟩ := Venn.of_allC HTH.out (firstFit_mem hff).1
    have LV := Lib.hid (show leastV u l = .tuple #[.agg #[.int .i64 a0, .int .i64 a1, .int .i64 a2, .int .i64 a3, .int .i64 a4, .int .i64 a5, .int .i64 a6, .int .i64 a7], .nilIface] by rw [leastV, if_pos (by rw [Venn.fitChk, if_pos HTH.out]; exact HRC.out), hff]; rfl)
    have HFX := Lib.hid (show Venn.fitsChk l [a0, a1, a2, a3, a4, a5, a6, a7] = 0 ∧ Venn.fitsV l [a0, a1, a2, a3, a4, a5, a6, a7] = true by
      have h6 := (things_parts HTH.out).2
      have hc : Venn.countsChk [a0, a1, a2, a3, a4, a5, a6, a7] = 0 := by
        have ht : [a0, a1, a2, a3, a4, a5, a6, a7].all Venn.things = true := by
          simp only [List.all_cons, List.all_nil, Bool.and_true, Bool.and_eq_true]
          exact ⟨things_of xb0.1 xb0.2, things_of xb1.1 xb1.2, things_of xb2.1 xb2.2, things_of xb3.1 xb3.2, things_of xb4.1 xb4.2, things_of xb5.1 xb5.2, things_of xb6.1 xb6.2, things_of xb7.1 xb7.2⟩
        rw [Venn.countsChk, if_pos ht, if_neg (by simp only [List.sum_cons, List.sum_nil]; omega)]
      have hc2 : Venn.fitsChk l [a0, a1, a2, a3, a4, a5, a6, a7] = 0 := by rw [Venn.fitsChk, if_pos HRC.out]; exact hc
      exact ⟨hc2, by rw [Venn.fitsV, if_pos hc2]; exact (firstFit_mem hff).2⟩)
    have HSX := Lib.hid (firstFit_mem hff).2
    have HFF := Lib.hid hff
    clear HSP hff xb0 xb1 xb2 xb3 xb4 xb5 xb6 xb7 xbs
    generalize Venn.manyFit u l = kk at hka hk0 hR2 MV
    go_enter Tryd.func8, Tryd.ntmps8
    go_wp2_with fail
    refine (fit_Many 2 _ [] _ (IsRows.nil _)).mono ?_
    rintro e w1 ⟨rfl, hb1⟩
    rw [M2.out]
    have BR1 := (((Blk.new w 27 #[.int .i64 m0, .int .i64 m1, .int .i64 m2, .int .i64 m3, .int .i64 m4, .int .i64 m5, .int .i64 m6, .int .i64 m7, .int .i64 m8]).alloc (.cells #[.int .i64 n0, .int .i64 n1, .int .i64 n2, .int .i64 n3, .int .i64 n4, .int .i64 n5, .int .i64 n6, .int .i64 n7] 25)).keep hb1)
    have BN1 := (Blk.newAt (w := w.alloc (.cells #[.int .i64 m0, .int .i64 m1, .int .i64 m2, .int .i64 m3, .int .i64 m4, .int .i64 m5, .int .i64 m6, .int .i64 m7, .int .i64 m8] 27)) (g := w.heap.size + 1) (by simp) 25 #[.int .i64 n0, .int .i64 n1, .int .i64 n2, .int .i64 n3, .int .i64 n4, .int .i64 n5, .int .i64 n6, .int .i64 n7]).keep hb1
    go_wp2_with fail
    refine (fit_Many u _ l _ (HL.keep (by (repeat' (first | (with_reducible exact Below.refl _ _) | (with_reducible refine Below.next ?_ (by with_reducible assumption)) | (with_reducible refine Below.drew ?_) | (with_reducible refine Below.laid ?_ _) | (with_reducible refine Below.setCell ?_ ?_ _) | (with_reducible refine size_of ?_) | (with_reducible refine Nat.le_succ_of_le ?_) | go_size))))).mono ?_
    rintro e w2 ⟨rfl, hb2⟩
    rw [MV.out]
    go_wp2_with fail
    refine (fit_Many u _ [] _ (IsRows.nil _)).mono ?_
    rintro e w3 ⟨rfl, hb3⟩
    rw [MN.out]
    go_wp2_with fail
    refine (fit_Least u _ l _ (HL.keep (by (repeat' (first | (with_reducible exact Below.refl _ _) | (with_reducible refine Below.next ?_ (by with_reducible assumption)) | (with_reducible refine Below.drew ?_) | (with_reducible refine Below.laid ?_ _) | (with_reducible refine Below.setCell ?_ ?_ _) | (with_reducible refine size_of ?_) | (with_reducible refine Nat.le_succ_of_le ?_) | go_size))))).mono ?_
    rintro e w4 ⟨rfl, hb4⟩
    rw [LV.out]
    have BR4 := ((BR1.keep hb2).keep hb3).keep hb4
    have BN4 := ((BN1.keep hb2).keep hb3).keep hb4
    have hbl : Below w.heap.size w w4 := by (repeat' (first | (with_reducible exact Below.refl _ _) | (with_reducible refine Below.next ?_ (by with_reducible assumption)) | (with_reducible refine Below.drew ?_) | (with_reducible refine Below.laid ?_ _) | (with_reducible refine Below.setCell ?_ ?_ _) | (with_reducible refine size_of ?_) | (with_reducible refine Nat.le_succ_of_le ?_) | go_size))
    clear BR1 BN1 hb1 hb2 hb3 hb4
    go_upto_region 12 with (first | (go_at_call 14; refine (vennsame_Error 5 _ _ (HET.keep (by (repeat' (first | (with_reducible exact Below.refl _ _) | (with_reducible refine Below.next ?_ (by with_reducible assumption)) | (with_reducible refine Below.drew ?_) | (with_reducible refine Below.laid ?_ _) | (with_reducible refine Below.setCell ?_ ?_ _) | (with_reducible refine size_of ?_) | (with_reducible refine Nat.le_succ_of_le ?_) | go_size))))).mono ?_; rintro e w5 ⟨rfl, hb5⟩) | fail)
    have BX5 := Blk.new w4 25 #[.int .i64 a0, .int .i64 a1, .int .i64 a2, .int .i64 a3, .int .i64 a4, .int .i64 a5, .int .i64 a6, .int .i64 a7]
    have BR5 := BR4.alloc (.cells #[.int .i64 a0, .int .i64 a1, .int .i64 a2, .int .i64 a3, .int .i64 a4, .int .i64 a5, .int .i64 a6, .int .i64 a7] 25)
    have BN5 := BN4.alloc (.cells #[.int .i64 a0, .int .i64 a1, .int .i64 a2, .int .i64 a3, .int .i64 a4, .int .i64 a5, .int .i64 a6, .int .i64 a7] 25)
    have hbl5 : Below w.heap.size w (w4.alloc (.cells #[.int .i64 a0, .int .i64 a1, .int .i64 a2, .int .i64 a3, .int .i64 a4, .int .i64 a5, .int .i64 a6, .int .i64 a7] 25)) := by (repeat' (first | (with_reducible exact Below.refl _ _) | (with_reducible refine Below.next ?_ (by with_reducible assumption)) | (with_reducible refine Below.drew ?_) | (with_reducible refine Below.laid ?_ _) | (with_reducible refine Below.setCell ?_ ?_ _) | (with_reducible refine size_of ?_) | (with_reducible refine Nat.le_succ_of_le ?_) | go_size))
    generalize w4.alloc (.cells #[.int .i64 a0, .int .i64 a1, .int .i64 a2, .int .i64 a3, .int .i64 a4, .int .i64 a5, .int .i64 a6, .int .i64 a7] 25) = w5 at BX5 BR5 BN5 hbl5 ⊢
    clear BR4 BN4 hbl
    go_wp2_with (first
      | (at_builtin; refine wpList_appRows _ rfl _ _ rfl _ _ 0 [] rfl (World.ownsRow_nil _ _ _ _) A cp l rfl (HRD.out.keep hbl5) HL9.out (by omega) (Nat.le_refl _) ?_; intro v6 w6 hown6 hg6; rw [Nat.zero_add, List.nil_append] at hown6; obtain ⟨A6, c6, rfl⟩ := ownsRow_slice hown6; have hb6 : Below w5.heap.size w5 w6 := (Below.refl _ _).grown hg6 (Nat.le_refl _) (fun g h => by cases h); obtain ⟨⟨r0, r1, r2, r3, r4, r5, r6, r7, r8⟩, _⟩ := (BR5.keep hb6).cells9; have hl6 := (BR5.keep hb6).lt)
      | (at_builtin; refine wpList_appRows _ rfl _ _ rfl w5.heap.size _ l.length (flat9 l) rfl (hown6.alloc _) (some ⟨w6.heap.size, 0, none⟩) 1 [[m0, m1, m2, m3, m4, m5, m6, m7, m8]] rfl (Rd.blk (Blk.new w6 _ _)) (by simp) (by simp; omega) (by have := hb6.size; simp; omega) ?_; intro v7 w7 hown7 hg7; have hb7 : Below w5.heap.size w5 w7 := (Below.alloc hb6 hb6.size _).grown hg7 (by have := hb6.size; simp; omega) (fun g h => (hown6.lt g h).1))
      | fail)
    have HR7 : IsRows w7 v7 (l ++ [[m0, m1, m2, m3, m4, m5, m6, m7, m8]]) := IsRows.of_own (e := 27) (base := w5.heap.size) (n := l.length + 1) (by simpa [flat9] using hown7) (by
      intro r hr
      rcases List.mem_append.1 hr with h | h
      · exact HL9.out r h
      · rw [List.mem_singleton.1 h]; rfl)
    have BN7 := BN5.keep hb7
    have BX7 := BX5.keep hb7
    have hbl7 : Below w.heap.size w w7 := Below.next hbl5 hb7
    clear hown6 hown7 hg6 hg7 hb6 hb7 BR5 BN5 BX5 hbl5 r0 r1 r2 r3 r4 r5 r6 r7 r8 hl6
    go_wp2_with fail
    refine (fit_Many u _ (l ++ [[m0, m1, m2, m3, m4, m5, m6, m7, m8]]) _ HR7).mono ?_
    rintro e w8 ⟨rfl, hb8⟩
    rw [HR1.out]
    have BN8 := BN7.keep hb8
    have BX8 := BX7.keep hb8
    have hbl8 : Below w.heap.size w w8 := Below.next hbl7 hb8
    obtain ⟨⟨c0, c1, c2, c3, c4, c5, c6', c7⟩, _⟩ := BN8.cells8
    clear HR7 BN7 BX7 hbl7 hb8
    rcases hR2 with ⟨rfl, hmk⟩ | ⟨zz, rfl⟩
    all_goals
      go_wp2_with fail
      refine (rows_Fits _ l n0 n1 n2 n3 n4 n5 n6 n7 _ (HL.keep (by (repeat' (first | (with_reducible exact Below.refl _ _) | (with_reducible refine Below.next ?_ (by with_reducible assumption)) | (with_reducible refine Below.drew ?_) | (with_reducible refine Below.laid ?_ _) | (with_reducible refine Below.setCell ?_ ?_ _) | (with_reducible refine size_of ?_) | (with_reducible refine Nat.le_succ_of_le ?_) | go_size))))).mono ?_
      rintro e w9 ⟨rfl, hb9⟩
      rw [HF1.out, HF2.out]
      have BN9 := BN8.keep hb9
      have BX9 := BX8.keep hb9
      have hbl9 : Below w.heap.size w w9 := Below.next hbl8 hb9
      obtain ⟨⟨d0, d1, d2, d3, d4, d5, d6, d7⟩, _⟩ := BN9.cells8
      rcases HF3.out with hfc | ⟨hfc, ⟨b0, b1, b2, b3, b4, b5, b6, b7⟩, hs6, hfv⟩
      · rw [errV_ne hfc]
        go_wp2
        refine wp_loop_rounds 9 ?_
        rw [rounds_succ]
        go_wp2
        rw [rounds_succ]
        go_wp2
        rw [rounds_succ]
        go_wp2
        rw [rounds_succ]
        go_wp2
        rw [rounds_succ]
        go_wp2
        rw [rounds_succ]
        go_wp2
        rw [rounds_succ]
        go_wp2
        rw [rounds_succ]
        go_wp2
        rw [rounds_succ]
        go_wp2
        go_ret
        exact ⟨rfl, hbl9⟩
      · rw [hfc, show errV 0 = .nilIface from rfl]
        have HFV := Lib.hid hfv
        clear hfv hfc
        go_wp2
        refine wp_loop_rounds 9 ?_
        rw [rounds_succ]
        go_wp2
        rw [rounds_succ]
        go_wp2
        rw [rounds_succ]
        go_wp2
        rw [rounds_succ]
        go_wp2
        rw [rounds_succ]
        go_wp2
        rw [rounds_succ]
        go_wp2
        rw [rounds_succ]
        go_wp2
        rw [rounds_succ]
        go_wp2
        rw [rounds_succ]
        by_cases hs : ¬ n0 + n1 + n2 + n3 + n4 + n5 + n6 + n7 = u
        · have hne : (n0 + n1 + n2 + n3 + n4 + n5 + n6 + n7 != u) = true := by simpa using hs
          clear hs
          go_wp2
          go_ret
          exact ⟨rfl, hbl9⟩
        replace hs := Decidable.not_not.1 hs
        have hne : (n0 + n1 + n2 + n3 + n4 + n5 + n6 + n7 != u) = false := by simpa using hs
        have HIN := Lib.hid ((Venn.mem_allC HTH.out [n0, n1, n2, n3, n4, n5, n6, n7]).2 ⟨rfl, by simp; omega, by simp; omega⟩)
        clear hs
        have HQ : fv = true → (n0 = a0 ∧ n1 = a1 ∧ n2 = a2 ∧ n3 = a3 ∧ n4 = a4 ∧ n5 = a5 ∧ n6 = a6 ∧ n7 = a7) ∨ (a0 < n0 ∨ (a0 = n0 ∧ (a1 < n1 ∨ (a1 = n1 ∧ (a2 < n2 ∨ (a2 = n2 ∧ (a3 < n3 ∨ (a3 = n3 ∧ (a4 < n4 ∨ (a4 = n4 ∧ (a5 < n5 ∨ (a5 = n5 ∧ (a6 < n6 ∨ (a6 = n6 ∧ a7 < n7)))))))))))))) := by
          intro h
          rw [h] at HFV
          rcases HLEAST.out _ _ HFF.out HIN.out HFV.out.symm with h | h
          · left
            simpa using h
          · right
            simpa only [Venn.lexLt, and_false, or_false] using h
        have HQQ := Lib.hid HQ
        have HEQ := Lib.hid (show n0 = a0 ∧ n1 = a1 ∧ n2 = a2 ∧ n3 = a3 ∧ n4 = a4 ∧ n5 = a5 ∧ n6 = a6 ∧ n7 = a7 → fv = true by
          rintro ⟨rfl, rfl, rfl, rfl, rfl, rfl, rfl, rfl⟩
          rw [HFV.out]; exact HSX.out)
        clear HQ HIN HFV
        obtain ⟨⟨x0, x1, x2, x3, x4, x5, x6, x7⟩, _⟩ := BX9.cells8
        go_wp2_with fail
        refine (rows_Fits _ l a0 a1 a2 a3 a4 a5 a6 a7 _ (HL.keep (by (repeat' (first | (with_reducible exact Below.refl _ _) | (with_reducible refine Below.next ?_ (by with_reducible assumption)) | (with_reducible refine Below.drew ?_) | (with_reducible refine Below.laid ?_ _) | (with_reducible refine Below.setCell ?_ ?_ _) | (with_reducible refine size_of ?_) | (with_reducible refine Nat.le_succ_of_le ?_) | go_size))))).mono ?_
        rintro e w10 ⟨rfl, hb10⟩
        rw [HFX.out.1, HFX.out.2, show errV 0 = .nilIface from rfl]
        obtain ⟨⟨y0, y1, y2, y3, y4, y5, y6, y7⟩, _⟩ := (BX9.keep hb10).cells8
        obtain ⟨⟨z0, z1, z2, z3, z4, z5, z6, z7⟩, _⟩ := (BN9.keep hb10).cells8
        have hbl10 : Below w.heap.size w w10 := Below.next hbl9 hb10
        clear c0 c1 c2 c3 c4 c5 c6' c7 d0 d1 d2 d3 d4 d5 d6 d7 x0 x1 x2 x3 x4 x5 x6 x7
        go_wp2
        refine wp_loop_rounds 9 ?_
        rw [rounds_succ]
        by_cases g0 : ¬ n0 = a0
        · have hne0 : (n0 != a0) = true := by simpa using g0
          rcases hfv : fv with _ | _
          · subst hfv
            clear g0
            go_wp2_with fail
            go_quiet (fail)
            go_wp2_with fail
            go_quiet (fail)
            go_wp2
            go_ret
            exact ⟨rfl, by repeat' (first | exact hbl10 | refine below_drewN ?_ _)⟩
          · have hlt : a0 < n0 := by
              have := HQQ.out hfv
              omega
            subst hfv
            clear g0
            go_wp2_with fail
            go_quiet (fail)
            go_wp2_with fail
            go_quiet (fail)
            go_wp2
            go_ret
            exact ⟨rfl, by repeat' (first | exact hbl10 | refine below_drewN ?_ _)⟩
        replace g0 := Decidable.not_not.1 g0
        have hne0 : (n0 != a0) = false := by simpa using g0
        have E0 := Lib.hid g0
        clear g0
        go_wp2_with fail
        go_quiet (fail)
        go_wp2
        rw [rounds_succ]
        by_cases g1 : ¬ n1 = a1
        · have hne1 : (n1 != a1) = true := by simpa using g1
          rcases hfv : fv with _ | _
          · subst hfv
            clear g1
            go_wp2_with fail
            go_quiet (fail)
            go_wp2_with fail
            go_quiet (fail)
            go_wp2
            go_ret
            exact ⟨rfl, by repeat' (first | exact hbl10 | refine below_drewN ?_ _)⟩
          · have hlt : a1 < n1 := by
              have := HQQ.out hfv
              have := E0.out
              omega
            subst hfv
            clear g1
            go_wp2_with fail
            go_quiet (fail)
            go_wp2_with fail
            go_quiet (fail)
            go_wp2
            go_ret
            exact ⟨rfl, by repeat' (first | exact hbl10 | refine below_drewN ?_ _)⟩
        replace g1 := Decidable.not_not.1 g1
        have hne1 : (n1 != a1) = false := by simpa using g1
        have E1 := Lib.hid g1
        clear g1
        go_wp2_with fail
        go_quiet (fail)
        go_wp2
        rw [rounds_succ]
        by_cases g2 : ¬ n2 = a2
        · have hne2 : (n2 != a2) = true := by simpa using g2
          rcases hfv : fv with _ | _
          · subst hfv
            clear g2
            go_wp2_with fail
            go_quiet (fail)
            go_wp2_with fail
            go_quiet (fail)
            go_wp2
            go_ret
            exact ⟨rfl, by repeat' (first | exact hbl10 | refine below_drewN ?_ _)⟩
          · have hlt : a2 < n2 := by
              have := HQQ.out hfv
              have := E0.out
              have := E1.out
              omega
            subst hfv
            clear g2
            go_wp2_with fail
            go_quiet (fail)
            go_wp2_with fail
            go_quiet (fail)
            go_wp2
            go_ret
            exact ⟨rfl, by repeat' (first | exact hbl10 | refine below_drewN ?_ _)⟩
        replace g2 := Decidable.not_not.1 g2
        have hne2 : (n2 != a2) = false := by simpa using g2
        have E2 := Lib.hid g2
        clear g2
        go_wp2_with fail
        go_quiet (fail)
        go_wp2
        rw [rounds_succ]
        by_cases g3 : ¬ n3 = a3
        · have hne3 : (n3 != a3) = true := by simpa using g3
          rcases hfv : fv with _ | _
          · subst hfv
            clear g3
            go_wp2_with fail
            go_quiet (fail)
            go_wp2_with fail
            go_quiet (fail)
            go_wp2
            go_ret
            exact ⟨rfl, by repeat' (first | exact hbl10 | refine below_drewN ?_ _)⟩
          · have hlt : a3 < n3 := by
              have := HQQ.out hfv
              have := E0.out
              have := E1.out
              have := E2.out
              omega
            subst hfv
            clear g3
            go_wp2_with fail
            go_quiet (fail)
            go_wp2_with fail
            go_quiet (fail)
            go_wp2
            go_ret
            exact ⟨rfl, by repeat' (first | exact hbl10 | refine below_drewN ?_ _)⟩
        replace g3 := Decidable.not_not.1 g3
        have hne3 : (n3 != a3) = false := by simpa using g3
        have E3 := Lib.hid g3
        clear g3
        go_wp2_with fail
        go_quiet (fail)
        go_wp2
        rw [rounds_succ]
        by_cases g4 : ¬ n4 = a4
        · have hne4 : (n4 != a4) = true := by simpa using g4
          rcases hfv : fv with _ | _
          · subst hfv
            clear g4
            go_wp2_with fail
            go_quiet (fail)
            go_wp2_with fail
            go_quiet (fail)
            go_wp2
            go_ret
            exact ⟨rfl, by repeat' (first | exact hbl10 | refine below_drewN ?_ _)⟩
          · have hlt : a4 < n4 := by
              have := HQQ.out hfv
              have := E0.out
              have := E1.out
              have := E2.out
              have := E3.out
              omega
            subst hfv
            clear g4
            go_wp2_with fail
            go_quiet (fail)
            go_wp2_with fail
            go_quiet (fail)
            go_wp2
            go_ret
            exact ⟨rfl, by repeat' (first | exact hbl10 | refine below_drewN ?_ _)⟩
        replace g4 := Decidable.not_not.1 g4
        have hne4 : (n4 != a4) = false := by simpa using g4
        have E4 := Lib.hid g4
        clear g4
        go_wp2_with fail
        go_quiet (fail)
        go_wp2
        rw [rounds_succ]
        by_cases g5 : ¬ n5 = a5
        · have hne5 : (n5 != a5) = true := by simpa using g5
          rcases hfv : fv with _ | _
          · subst hfv
            clear g5
            go_wp2_with fail
            go_quiet (fail)
            go_wp2_with fail
            go_quiet (fail)
            go_wp2
            go_ret
            exact ⟨rfl, by repeat' (first | exact hbl10 | refine below_drewN ?_ _)⟩
          · have hlt : a5 < n5 := by
              have := HQQ.out hfv
              have := E0.out
              have := E1.out
              have := E2.out
              have := E3.out
              have := E4.out
              omega
            subst hfv
            clear g5
            go_wp2_with fail
            go_quiet (fail)
            go_wp2_with fail
            go_quiet (fail)
            go_wp2
            go_ret
            exact ⟨rfl, by repeat' (first | exact hbl10 | refine below_drewN ?_ _)⟩
        replace g5 := Decidable.not_not.1 g5
        have hne5 : (n5 != a5) = false := by simpa using g5
        have E5 := Lib.hid g5
        clear g5
        go_wp2_with fail
        go_quiet (fail)
        go_wp2
        rw [rounds_succ]
        by_cases g6 : ¬ n6 = a6
        · have hne6 : (n6 != a6) = true := by simpa using g6
          rcases hfv : fv with _ | _
          · subst hfv
            clear g6
            go_wp2_with fail
            go_quiet (fail)
            go_wp2_with fail
            go_quiet (fail)
            go_wp2
            go_ret
            exact ⟨rfl, by repeat' (first | exact hbl10 | refine below_drewN ?_ _)⟩
          · have hlt : a6 < n6 := by
              have := HQQ.out hfv
              have := E0.out
              have := E1.out
              have := E2.out
              have := E3.out
              have := E4.out
              have := E5.out
              omega
            subst hfv
            clear g6
            go_wp2_with fail
            go_quiet (fail)
            go_wp2_with fail
            go_quiet (fail)
            go_wp2
            go_ret
            exact ⟨rfl, by repeat' (first | exact hbl10 | refine below_drewN ?_ _)⟩
        replace g6 := Decidable.not_not.1 g6
        have hne6 : (n6 != a6) = false := by simpa using g6
        have E6 := Lib.hid g6
        clear g6
        go_wp2_with fail
        go_quiet (fail)
        go_wp2
        rw [rounds_succ]
        by_cases g7 : ¬ n7 = a7
        · have hne7 : (n7 != a7) = true := by simpa using g7
          rcases hfv : fv with _ | _
          · subst hfv
            clear g7
            go_wp2_with fail
            go_quiet (fail)
            go_wp2_with fail
            go_quiet (fail)
            go_wp2
            go_ret
            exact ⟨rfl, by repeat' (first | exact hbl10 | refine below_drewN ?_ _)⟩
          · have hlt : a7 < n7 := by
              have := HQQ.out hfv
              have := E0.out
              have := E1.out
              have := E2.out
              have := E3.out
              have := E4.out
              have := E5.out
              have := E6.out
              omega
            subst hfv
            clear g7
            go_wp2_with fail
            go_quiet (fail)
            go_wp2_with fail
            go_quiet (fail)
            go_wp2
            go_ret
            exact ⟨rfl, by repeat' (first | exact hbl10 | refine below_drewN ?_ _)⟩
        replace g7 := Decidable.not_not.1 g7
        have hne7 : (n7 != a7) = false := by simpa using g7
        have E7 := Lib.hid g7
        clear g7
        go_wp2_with fail
        go_quiet (fail)
        go_wp2
        rw [rounds_succ]
        have hT := HEQ.out ⟨E0.out, E1.out, E2.out, E3.out, E4.out, E5.out, E6.out, E7.out⟩
        subst hT
        go_wp2
        go_ret
        exact ⟨rfl, by repeat' (first | exact hbl10 | refine below_drewN ?_ _)⟩

theorem fitLeast_walk_row (u : Int) (v : Value) (l : List (List Int)) (r : List Int) (hr : r.length = 9) (n0 n1 n2 n3 n4 n5 n6 n7 : Int) (w : World) (hl : IsRows w v l) (HET : EtOk w) :
    Calls Tryd.prog 8 #[.int .i64 u, v, .agg (r.map (Value.int .i64)).toArray, .agg #[.int .i64 n0, .int .i64 n1, .int .i64 n2, .int .i64 n3, .int .i64 n4, .int .i64 n5, .int .i64 n6, .int .i64 n7]] w (Keeps (.bool true) w) := by
  match r, hr with
  | [m0, m1, m2, m3, m4, m5, m6, m7, m8], _ => exact fitLeast_walk u v l m0 m1 m2 m3 m4 m5 m6 m7 m8 n0 n1 n2 n3 n4 n5 n6 n7 w hl HET
set_option maxRecDepth 100000 in
theorem fitLeast_contract (H : Type) (enc : TypeId × Value → H) (W : World) (base : Nat) (args : Array Value) (ds gs : List (DataW H)) (before : List MemPlace)
    (hval : ∀ (j : Nat) t v, Tryd.f8.params[j]? = some t → args[j]? = some v → Value.okWide Tryd.prog W .any base t v)
    (hW : DataW.Whole enc Tryd.prog Tryd.f8.params.toList Rows.fitLeastSpec.vars false W args.toList ds gs before) (hL : laidMetH Tryd.prog Rows.fitLeastRow.laid W)
    : Calls Tryd.prog 8 args W fun e W' => ∃ v, e = .returned v ∧ Rows.fitLeastSpec.post enc Tryd.prog Tryd.f8 false true false false W args v W' := by
  have hW' := hW
  obtain ⟨p, q, hA0, hV, rfl, hfz, hnd⟩ := hW
  have hA : DataW.TrodAll enc Tryd.prog W 0 (fun _ => true) true Tryd.f8.params.toList args.toList ds p := hA0
  rw [Tryd.params8] at hA hval
  obtain ⟨v0, vs0, d0, ds0, p0, q0, hargs, rfl, rfl, h0, r0⟩ := trodAll_cons hA
  obtain ⟨v1, vs1, d1, ds1, p1, q1, rfl, rfl, rfl, h1, r1⟩ := trodAll_cons r0
  obtain ⟨v2, vs2, d2, ds2, p2, q2, rfl, rfl, rfl, h2, r2⟩ := trodAll_cons r1
  obtain ⟨v3, vs3, d3, ds3, p3, q3, rfl, rfl, rfl, h3, r3⟩ := trodAll_cons r2
  obtain ⟨rfl, rfl, rfl⟩ := trodAll_nil r3
  obtain rfl : args = #[v0, v1, v2, v3] := by cases args; simp_all
  obtain ⟨rfl, rfl⟩ := trodVars_none hV
  have HET : EtOk W := et_of_laid hL (by repeat (first | exact List.Mem.head _ | apply List.Mem.tail))
  obtain ⟨u, rfl, rfl, rfl, wu⟩ := open_int Tryd.underlying3 (hval 0 3 v0 rfl rfl) h0
  obtain ⟨x, Hx⟩ := open_rows (hval 1 55 v1 rfl rfl) h1
  obtain ⟨y, yl, rfl⟩ := open_row (hval 2 27 v2 rfl rfl) h2
  obtain ⟨n0, n1, n2, n3, n4, n5, n6, n7, rfl, nwf⟩ := open_counts (hval 3 25 v3 rfl rfl) h3
  clear hA0
  refine (fitLeast_walk_row u v1 x y yl n0 n1 n2 n3 n4 n5 n6 n7 W Hx HET).mono fun e W' ⟨he, hw⟩ => ?_
  subst he
  exact ⟨_, rfl, law_post laidOut Tryd.underlying4 (by kernel_rfl) rfl (by kernel_rfl) hW' rfl hw⟩

theorem fitLeast_met (os : Os) : laidMetH Tryd.prog Rows.fitLeastRow.laid ((World.doorLaid Tryd.prog 400 os).forCall (fun _ _ => 0) ⟨#[], #[.int .i64 0, .slice none 0 0, .agg #[.int .i64 0, .int .i64 0, .int .i64 0, .int .i64 0, .int .i64 0, .int .i64 0, .int .i64 0, .int .i64 0, .int .i64 0], .agg #[.int .i64 0, .int .i64 0, .int .i64 0, .int .i64 0, .int .i64 0, .int .i64 0, .int .i64 0, .int .i64 0]], []⟩).memory :=
  laidMetH_of_parts3 (fuel := 8) (laidMet_of_run' 8 (by kernel_rfl) (by kernel_rfl)) (by kernel_rfl) (by kernel_rfl)

set_option maxRecDepth 100000 in
theorem fitLeast_lifted (os : Os) (started : os.Started) (H : Type) (enc : TypeId × Value → H) (F : Stop.Interp) :
    ReturnsInHanded {} Tryd.checked os 8 .any ((OpenSpec.ofChange Rows.fitLeastSpec).preRow enc Tryd.prog Tryd.f8 Rows.fitLeastRow.domain false Rows.fitLeastRow.laid) (((OpenSpec.ofChange Rows.fitLeastSpec).at F).post enc Tryd.prog Tryd.f8 false true false false) := by
  refine returnsInHanded_of_row (C := Tryd.checked) (s := (OpenSpec.ofChange Rows.fitLeastSpec)) own started (by kernel_rfl) Tryd.func8
    (witness_row_at (enc := enc) (C := Tryd.checked) false (World.doorLaid Tryd.prog 400 os) #[.int .i64 0, .slice none 0 0, .agg #[.int .i64 0, .int .i64 0, .int .i64 0, .int .i64 0, .int .i64 0, .int .i64 0, .int .i64 0, .int .i64 0, .int .i64 0], .agg #[.int .i64 0, .int .i64 0, .int .i64 0, .int .i64 0, .int .i64 0, .int .i64 0, .int .i64 0, .int .i64 0]] rfl (by kernel_rfl) (by kernel_rfl) (by kernel_rfl)
      (OpenSpec.preRow_of_cond 8 (x := ([.lit (.int .i64 0), .nil, .agg [.agg [.lit (.int .i64 0), .lit (.int .i64 0), .lit (.int .i64 0), .lit (.int .i64 0), .lit (.int .i64 0), .lit (.int .i64 0), .lit (.int .i64 0), .lit (.int .i64 0)], .lit (.int .i64 0)], .agg [.lit (.int .i64 0), .lit (.int .i64 0), .lit (.int .i64 0), .lit (.int .i64 0), .lit (.int .i64 0), .lit (.int .i64 0), .lit (.int .i64 0), .lit (.int .i64 0)]], [], [])) (by kernel_rfl) (by kernel_rfl) (fun k hk => by cases hk) (by kernel_rfl) (fitLeast_met os))) ?_
  intro W base args ds gs before hval hW _ HKU _ hL _ _
  exact fitLeast_contract H enc W base args ds gs before hval hW hL

theorem fitLeast_said : Rows.FitLeastSaid :=
  OpenClaim.holds_of_cond 8 Tryd.f8 rfl rfl rfl rfl rfl rfl rfl ⟨rfl, rfl, rfl, rfl, rfl⟩ rfl rfl rfl rfl rfl (by kernel_rfl) Tryd.func8 (by kernel_rfl)
    (of_decide_eq_true (by kernel_rfl)) (by unfold Func.isWrapper; first | (rw [if_pos (by decide +kernel)]; kernel_rfl) | (rw [if_neg (by decide +kernel)]; exact ⟨rfl, rfl⟩))
    (fun os started H enc _ F => by rw [OpenClaim.pre_eq_preRow]; exact fitLeast_lifted os started H enc F)

theorem fitLeast_plain (f : FuncId) (fn : Func) (hf : Tryd.pinned.checked.prog.funcNamed "vennhouse/vennlaw1.FitLeast" = some f) (hfn : Tryd.pinned.checked.prog.funcs[f]? = some fn) :
    true = Tryd.pinned.checked.prog.looks [] ∧ ∀ (j : Nat) t, fn.params[j]? = some t → Tryd.pinned.checked.prog.wantsStandIn t = false := by
  obtain rfl : f = 8 := Option.some.inj ((show Tryd.prog.funcNamed "vennhouse/vennlaw1.FitLeast" = some 8 by kernel_rfl).symm.trans hf) |>.symm
  obtain rfl : fn = Tryd.f8 := (Option.some.inj (Tryd.func8.symm.trans hfn)).symm
  refine ⟨by kernel_rfl, fun j t ht => ?_⟩
  rw [Tryd.params8] at ht
  have ht' := Array.mem_of_getElem? ht
  have hall : ∀ t ∈ (#[3, 55, 27, 25] : Array TypeId), Tryd.prog.wantsStandIn t = false := fun t ht => by
    simp only [List.mem_toArray, List.mem_cons, List.not_mem_nil, or_false] at ht
    rcases ht with rfl | rfl | rfl | rfl
    all_goals kernel_rfl
  exact hall t ht'

theorem fitLeast_holds : Rows.FitLeastCardSaid :=
  Claim7.holds_tied_plain_at .later [] _ _ _ _ fitLeast_said (fun _ h => by cases h) (by kernel_rfl) (fun _ h => by cases h) fitLeast_row_tie rfl ⟨rfl, rfl⟩ (by kernel_rfl) rfl fitLeast_plain (by kernel_rfl)
#print axioms fitLeast_holds
end Go.Proofs.YteikjcboehilpaaDoor
