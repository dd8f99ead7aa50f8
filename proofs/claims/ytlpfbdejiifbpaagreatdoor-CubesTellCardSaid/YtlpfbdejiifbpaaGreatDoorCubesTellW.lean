/-
  THE WALK of vennlaw1.CubesTell.
-/
import Derived.Test.YtlpfbdejiifbpaaGreatDoorRefCubes
import Derived.Test.YtlpfbdejiifbpaaGreatDoorHolds
import Derived.Test.YtlpfbdejiifbpaaGreatDoorRefForm
import Derived.Test.YtlpfbdejiifbpaaGreatDoorRefTerm
import Derived.Test.YtlpfbdejiifbpaaGreatDoorRefHolds
import Derived.Test.YtlpfbdejiifbpaaGreatDoorSameL
import Derived.Deep.DeepCutAuto
import Derived.Deep.RegionLaw
namespace Go.Proofs.YtlpfbdejiifbpaaGreatDoor
open Go.RowKit

def farT (n : Int) : Int := if n < 0 then wrap64 (-n) else n
theorem ref_FarT (n : Int) (w : World) : Calls Tryz.prog 17 #[.int .i64 n] w (Pure (.int .i64 (farT n)) w) := by
  unfold farT
  by_cases h0 : n < 0
  · rw [if_pos h0]
    go_enter Tryz.func17, Tryz.ntmps17
    go_wp2
    go_ret
    exact ⟨rfl, rfl⟩
  · rw [if_neg h0]
    go_enter Tryz.func17, Tryz.ntmps17
    go_wp2
    go_ret
    exact ⟨rfl, rfl⟩
theorem IsLists.slice' {w : World} {v : Value} {L : List (List Int)} (h : IsLists w v L) : ∃ A c, v = .slice A L.length c := by
  obtain ⟨A, c, p, rfl, rfl, _⟩ := h
  exact ⟨A, c, by rw [lVals_len]⟩
/-- Behind the first half: the boxes lie. -/
structure CtAt (w wx : World) (sa sc th a b d : Value) : Prop where
  below : Below w.heap.size w wx
  form : Blk wx w.heap.size 25 #[sa, sc]
  world : Blk wx (w.heap.size + 1) 29 #[th, a, b, d]
theorem CtAt.keep {w wx wy : World} {sa sc th a b d : Value} (h : CtAt w wx sa sc th a b d) (hb : Below wx.heap.size wx wy) : CtAt w wy sa sc th a b d := ⟨Below.next h.below hb, h.form.keep hb, h.world.keep hb⟩
set_option maxHeartbeats 8000000 in
set_option maxRecDepth 100000 in
theorem cubesTell_walk (sa sc lv : Value) (l : List Venn.Atom) (c : List Int) (L : List (List Int)) (th a b d : Int) (w : World) (ha : IsAtoms w sa l) (hc : IsInts w sc c) (hlv : IsLists w lv L) (hk : KindsOk w) (het : EtOk w) :
    Calls Tryz.prog 3 #[.agg #[sa, sc], lv, .agg #[.int .i64 th, .int .i64 a, .int .i64 b, .int .i64 d]] w (Keeps (.bool true) w) := by
  have HA := Lib.hid ha
  have HC := Lib.hid hc
  have HK := Lib.hid hk
  have HET := Lib.hid het
  have HLV := Lib.hid hlv
  obtain ⟨A, cA, rfl, _⟩ := ha
  obtain ⟨C, cC, rfl, _⟩ := hc
  obtain ⟨LA, lc, p, rfl, rfl, hrp, hop, h1, h2⟩ := hlv
  have hn1 : p.length ≤ 9223372036854775807 := by unfold maxLen at h2; omega
  have HRP := Lib.hid hrp
  have HOP := Lib.hid hop
  have HT0 := Lib.hid (show CtAt w ((w.alloc (.cells #[.slice A l.length cA, .slice C c.length cC] 25)).alloc (.cells #[.int .i64 th, .int .i64 a, .int .i64 b, .int .i64 d] 29)) (.slice A l.length cA) (.slice C c.length cC) (.int .i64 th) (.int .i64 a) (.int .i64 b) (.int .i64 d) from
    ⟨by (repeat' (first | (with_reducible exact Below.refl _ _) | (with_reducible assumption) | (with_reducible refine Below.next ?_ (by with_reducible assumption)) | (with_reducible refine Below.drew ?_) | (with_reducible refine Below.laid ?_ _) | (with_reducible refine Below.setCell ?_ ?_ _) | (with_reducible refine size_of ?_) | (with_reducible refine Nat.le_succ_of_le ?_) | go_size)), (Blk.new w _ _).alloc _, Blk.newAt (by simp) _ _⟩)
  clear hk het hrp hop h1 h2
  go_enter Tryz.func3, Tryz.ntmps3
  go_upto_region 1 with (fail)
  revert HT0
  generalize (w.alloc (.cells #[.slice A l.length cA, .slice C c.length cC] 25)).alloc (.cells #[.int .i64 th, .int .i64 a, .int .i64 b, .int .i64 d] 29) = w0
  intro HT0
  by_cases hz : Venn.formChk ⟨l, c⟩ = 0
  · cases hJ : Venn.cubesO c with
    | none =>
      have HRF := Lib.hid (fun W (hW : Below w.heap.size w W) => ref_Form _ _ l c W (HA.out.keep hW) (HC.out.keep hW))
      rw [hz] at HRF
      obtain ⟨p1, p2, p3, h20, p5, p6, p7⟩ := Venn.formChk_parts hz
      have HAT := Lib.hid (fun x hx => Venn.atomsChk_mem p5 x hx)
      have HRC := Lib.hid (fun W (hW : Below w.heap.size w W) => ref_Cubes (.slice A l.length cA) _ (l.length : Int) c W (HC.out.keep hW) h20 p6 p7)
      have HOF := Lib.hid (fun W (hW : Below w.heap.size w W) => cubes_Of _ _ l c W (HA.out.keep hW) (HC.out.keep hW) (HK.out.keep hW))
      have HHO := Lib.hid (fun W (hW : Below w.heap.size w W) => cubes_Holds _ _ (.slice LA p.length lc) l c (lVals p) th a b d W (HA.out.keep hW) (HC.out.keep hW) (HLV.out.keep hW) (HK.out.keep hW))
      have HHE := Lib.hid (show cHoldsChk ⟨l, c⟩ (lVals p) ⟨th, a, b, d⟩ = (if ((lVals p).any fun c => c.any (badM l.length)) = true then 1 else Venn.worldChk ⟨th, a, b, d⟩) by unfold cHoldsChk; rw [if_pos hz])
      have HHV := Lib.hid (show cHoldsV ⟨l, c⟩ (lVals p) ⟨th, a, b, d⟩ = if cHoldsChk ⟨l, c⟩ (lVals p) ⟨th, a, b, d⟩ = 0 then Venn.someV (Venn.valA l ⟨th, a, b, d⟩) (lVals p) else false from rfl)
      generalize cHoldsV ⟨l, c⟩ (lVals p) ⟨th, a, b, d⟩ = HV at HHV HHO
      generalize cHoldsChk ⟨l, c⟩ (lVals p) ⟨th, a, b, d⟩ = HE at HHV HHE HHO
      have hl6 : l.length ≤ 6 := p2
      have HF := Lib.hid (show Venn.cubesErr ⟨l, c⟩ = 4 ∧ Venn.cubesV ⟨l, c⟩ = [] by unfold Venn.cubesErr Venn.cubesV; rw [if_pos hz, if_pos hz, hJ]; exact ⟨rfl, rfl⟩)
      rw [hJ] at HRC
      clear hz hJ p1 p2 p3 h20 p5 p6 p7
      have y0 := ((HT0).out.form).cell 0
      have y1 := ((HT0).out.form).cell 1
      obtain ⟨z0, z1, z2, z3⟩ := ((HT0).out.world).cells4
      simp at y0 y1
      go_wp2_with fail
      refine (HRF.out _ HT0.out.below).mono ?_
      rintro e w1 ⟨rfl, hb1⟩
      have HT1 := Lib.hid (HT0.out.keep hb1)
      clear y0 y1 z0 z1 z2 z3
      have y0 := ((HT1).out.form).cell 0
      have y1 := ((HT1).out.form).cell 1
      obtain ⟨z0, z1, z2, z3⟩ := ((HT1).out.world).cells4
      simp at y0 y1
      go_wp2_with fail
      refine (HRC.out _ HT1.out.below).mono ?_
      rintro e w2 ⟨hb2, ⟨_, rfl⟩ | ⟨_, _, h, _⟩⟩
      rotate_left
      · cases h
      have HI2 := Lib.hid (IsLists.nil w2)
      have HT2 := Lib.hid (HT1.out.keep hb2)
      clear y0 y1 z0 z1 z2 z3
      have y0 := ((HT2).out.form).cell 0
      have y1 := ((HT2).out.form).cell 1
      obtain ⟨z0, z1, z2, z3⟩ := ((HT2).out.world).cells4
      simp at y0 y1
      go_wp2_with fail
      refine (HOF.out _ HT2.out.below).mono ?_
      rintro e w3 ⟨hb3, v3, rfl, hI3⟩
      rw [HF.out.2] at hI3
      rw [HF.out.1]
      have HT3 := Lib.hid (HT2.out.keep hb3)
      have HI3 := Lib.hid hI3
      obtain ⟨A3, c3, rfl⟩ := hI3.slice'
      clear hI3
      clear y0 y1 z0 z1 z2 z3
      rw [errV_ne (show (4 : Int) ≠ 0 by decide)]
      go_wp2_with fail
      rw [← errV_ne (show (4 : Int) ≠ 0 by decide)]
      refine (vennsame_Error 4 4 _ (HET.out.keep HT3.out.below)).mono ?_
      rintro e w4 ⟨rfl, hb4⟩
      rw [beq_self_eq_true]
      have HT4 := Lib.hid (HT3.out.keep hb4)
      go_wp2_with fail
      refine (same_Lists _ _ [] _ (HI3.out.keep hb4) ((HI2.out.keep hb3).keep hb4)).mono ?_
      rintro e w5 ⟨rfl, hb5⟩
      have HT5 := Lib.hid (HT4.out.keep hb5)
      clear HI2 HI3 hb1 hb2 hb3 hb4 hb5 HT0 HT1 HT2 HT3 HT4 HRF HRC HOF HF
      have HB0 := Lib.hid (show ((lVals p).any fun c => c.any (badM l.length)) = (((lVals p).drop 0).any fun c => c.any (badM l.length)) by rw [List.drop_zero])
      generalize ((lVals p).any fun c => c.any (badM l.length)) = BB at HB0 HHE
      have y0 := ((HT5).out.form).cell 0
      have y1 := ((HT5).out.form).cell 1
      obtain ⟨z0, z1, z2, z3⟩ := ((HT5).out.world).cells4
      simp at y0 y1
      have hw6 : wrap64 (-(l.length : Int)) = -(l.length : Int) := IntWalk.wrap64_in _ (by omega)
      go_wp2
      go_loopw [7, 13] (fun s7 i wr => ∃ (k : Nat) (G : Int), k ≤ p.length ∧ i = .int .i64 k ∧ s7 = .int .i64 G ∧ w5 = wr ∧ ((G = 0 ∧ BB = ((lVals p).drop k).any fun c => c.any (badM l.length)) ∨ (G = 1 ∧ BB = true))) (fun _ i _ => p.length - (intOf i).toNat)
      case atStart => exact ⟨0, 0, Nat.zero_le _, rfl, rfl, (by first | rfl | trivial), .inl ⟨rfl, HB0.out⟩⟩
      case round =>
        obtain ⟨k, G, hk, rfl, rfl, rfl, hG⟩ := hrel
        by_cases hlt : k < p.length
        · have hk1 : (k : Int) < (p.length : Int) := by omega
          have hk0 : (0 : Int) ≤ (k : Int) := by omega
          rcases hG with ⟨rfl, hBB⟩ | ⟨rfl, hBB⟩
          · obtain ⟨⟨x, xv⟩, hx⟩ : ∃ x, p[k]? = some x := ⟨p[k], List.getElem?_eq_getElem hlt⟩
            obtain ⟨ad, rfl, hc0⟩ := HRP.out k xv (by unfold lCells; rw [List.getElem?_map, hx]; rfl)
            have hc := cell_keep HT5.out.below hc0
            obtain ⟨X, cX, hxv, hrx, hx1, hx2⟩ := HOP.out _ (List.mem_of_getElem? hx)
            rw [lVals_at hx, List.any_cons] at hBB
            simp only at hxv hrx hx1 hBB
            subst hxv
            have HRX := Lib.hid hrx
            have HBB := Lib.hid hBB
            have hxl : x.length ≤ 9223372036854775807 := by unfold maxLen at hx2; omega
            have HX0 := Lib.hid (show x.any (badM l.length) = (x.drop 0).any (badM l.length) by rw [List.drop_zero])
            clear hx hc0 hrx hx1 hx2 hBB
            go_wp2
            go_loopw [7, 14] (fun s7 i wr => ∃ (j : Nat) (G : Int), j ≤ x.length ∧ i = .int .i64 j ∧ s7 = .int .i64 G ∧ w5 = wr ∧ ((G = 0 ∧ x.any (badM l.length) = (x.drop j).any (badM l.length)) ∨ (G = 1 ∧ x.any (badM l.length) = true))) (fun _ i _ => x.length - (intOf i).toNat)
            case atStart => exact ⟨0, 0, Nat.zero_le _, rfl, rfl, (by first | rfl | trivial), .inl ⟨rfl, HX0.out⟩⟩
            case round =>
              clear HX0
              obtain ⟨j, G, hj, rfl, rfl, rfl, hG⟩ := hrel
              by_cases hlj : j < x.length
              · obtain ⟨xd, rfl, hd0⟩ := HRX.out.int hlj
                have hd := cell_keep HT5.out.below hd0
                have hj1 : (j : Int) < (x.length : Int) := by omega
                have hj0 : (0 : Int) ≤ (j : Int) := by omega
                have hG' : (badM l.length x[j] = true → x.any (badM l.length) = true) ∧ (G = 0 → badM l.length x[j] = false → x.any (badM l.length) = (x.drop (j + 1)).any (badM l.length)) := by
                  refine ⟨fun h => List.any_eq_true.2 ⟨_, List.getElem_mem hlj, h⟩, fun h0 hb => ?_⟩
                  rcases hG with ⟨_, h⟩ | ⟨h, _⟩
                  · rw [h, List.drop_eq_getElem_cons hlj, List.any_cons, hb, Bool.false_or]
                  · omega
                have HG := Lib.hid (show (G = 0 ∨ (G = 1 ∧ x.any (badM l.length) = true)) from hG.elim (fun h => .inl h.1) .inr)
                generalize x[j] = m at hd hG'
                have HG' := Lib.hid hG'
                clear hd0 hG hG'
                by_cases m0 : m = 0
                · have HB := Lib.hid (show badM l.length m = true by unfold badM; rw [decide_eq_true m0]; rfl)
                  subst m0
                  go_wp2
                  go_roundw
                  case rel => exact ⟨j + 1, 1, by omega, by go_num, rfl, (by first | rfl | trivial), .inr ⟨rfl, HG'.out.1 HB.out⟩⟩
                  case measure => simp [intOf]; omega
                · have m0' : (m == 0) = false := beq_eq_false_iff_ne.2 m0
                  by_cases m1 : m < -(l.length : Int)
                  · have HB := Lib.hid (show badM l.length m = true by unfold badM; rw [decide_eq_true m1]; simp)
                    go_wp2
                    go_roundw
                    case rel => exact ⟨j + 1, 1, by omega, by go_num, rfl, (by first | rfl | trivial), .inr ⟨rfl, HG'.out.1 HB.out⟩⟩
                    case measure => simp [intOf]; omega
                  · by_cases m2 : (l.length : Int) < m
                    · have HB := Lib.hid (show badM l.length m = true by unfold badM; rw [decide_eq_true m2]; simp)
                      go_wp2
                      go_roundw
                      case rel => exact ⟨j + 1, 1, by omega, by go_num, rfl, (by first | rfl | trivial), .inr ⟨rfl, HG'.out.1 HB.out⟩⟩
                      case measure => simp [intOf]; omega
                    · have HB := Lib.hid (show badM l.length m = false by unfold badM; rw [decide_eq_false m0, decide_eq_false m1, decide_eq_false m2]; rfl)
                      go_wp2
                      go_roundw
                      case rel => exact ⟨j + 1, G, by omega, by go_num, rfl, (by first | rfl | trivial), HG.out.elim (fun h => .inl ⟨h, HG'.out.2 h HB.out⟩) .inr⟩
                      case measure => simp [intOf]; omega
              · have hj' : j = x.length := by omega
                have hj1 : ¬ (j : Int) < (x.length : Int) := by omega
                have HG := Lib.hid (show (G = 0 ∧ BB = ((lVals p).drop (k + 1)).any fun c => c.any (badM l.length)) ∨ (G = 1 ∧ BB = true) from by
                  rcases hG with ⟨h, h'⟩ | ⟨h, h'⟩
                  · refine .inl ⟨h, ?_⟩
                    rw [HBB.out, h', hj', List.drop_length]
                    rfl
                  · exact .inr ⟨h, by rw [HBB.out, h', Bool.true_or]⟩)
                clear hG
                go_wp2
                go_roundw
                case rel => exact ⟨k + 1, G, by omega, by go_num, rfl, (by first | rfl | trivial), HG.out⟩
                case measure => simp [intOf]; omega
          · have HBT := Lib.hid (show BB = true from hBB)
            have HE1 := Lib.hid (show HE = 1 by rw [HHE.out, HBT.out]; rfl)
            have HV0 := Lib.hid (show HV = false by rw [HHV.out, if_neg (by rw [HE1.out]; decide)])
            clear hBB
            rw [HE1.out, HV0.out] at HHO
            go_wp2
            refine wp_loop_rounds 1 ?_
            rw [rounds_succ]
            rw [errV_ne (show (1 : Int) ≠ 0 by decide)] at HHO
            go_wp2_with fail
            refine (HHO.out _ HT5.out.below).mono ?_
            rintro e w8 ⟨rfl, hb8⟩
            have HT8 := Lib.hid (HT5.out.keep hb8)
            clear y0 y1 z0 z1 z2 z3
            go_wp2_with fail
            rw [← errV_ne (show (1 : Int) ≠ 0 by decide)]
            refine (vennsame_Error 1 1 _ (HET.out.keep HT8.out.below)).mono ?_
            rintro e w9 ⟨rfl, hb9⟩
            rw [beq_self_eq_true]
            have hq9 := Below.next HT8.out.below hb9
            go_wp2
            go_ret
            exact ⟨rfl, hq9⟩
        · have hk1 : ¬ (k : Int) < (p.length : Int) := by omega
          rcases hG with ⟨rfl, hBB⟩ | ⟨rfl, hBB⟩
          · have hk' : k = p.length := by omega
            have hbf : BB = false := by rw [hBB, hk', List.drop_eq_nil_of_le (by rw [lVals_len]; exact Nat.le_refl _)]; rfl
            have HM := Lib.hid (show ∀ x ∈ p, ∀ m ∈ x.1, m ≠ 0 ∧ -(l.length : Int) ≤ m ∧ m ≤ l.length from fun x hx m hm => by
              have h0 := HB0.out
              rw [hbf, List.drop_zero] at h0
              have h1 := List.any_eq_false.1 h0.symm x.1 (lVals_mem hx)
              have h2 := List.any_eq_false.1 (by simpa using h1) m hm
              exact not_bad (by simpa using h2))
            have HE1 := Lib.hid (show HE = Venn.worldChk ⟨th, a, b, d⟩ by rw [HHE.out, hbf]; rfl)
            clear hBB hbf
            rw [HE1.out] at HHO
            go_wp2_with fail
            refine (ref_World _ _ _ _ _).mono ?_
            rintro e w6 ⟨rfl, hb6⟩
            have HT6 := Lib.hid (HT5.out.keep hb6)
            clear y0 y1 z0 z1 z2 z3
            have y0 := ((HT6).out.form).cell 0
            have y1 := ((HT6).out.form).cell 1
            obtain ⟨z0, z1, z2, z3⟩ := ((HT6).out.world).cells4
            simp at y0 y1
            by_cases hw : Venn.worldChk ⟨th, a, b, d⟩ = 0
            · have HWC := Lib.hid hw
              have HVS := Lib.hid (show HV = Venn.someV (Venn.valA l ⟨th, a, b, d⟩) (lVals p) by rw [HHV.out, if_pos (by rw [HE1.out]; exact hw)])
              rw [hw] at HHO ⊢
              clear hw
              rw [HVS.out] at HHO
              have HS0 := Lib.hid (show (false || ((lVals p).drop 0).any (Venn.cubeV (Venn.valA l ⟨th, a, b, d⟩))) = Venn.someV (Venn.valA l ⟨th, a, b, d⟩) (lVals p) by rw [List.drop_zero]; rfl)
              generalize Venn.someV (Venn.valA l ⟨th, a, b, d⟩) (lVals p) = SV at HHO HS0
              rw [errV_zero rfl] at HHO
              go_wp2
              go_loopw [16, 17] (fun s i wr => ∃ (k : Nat) (S : Bool), k ≤ p.length ∧ i = .int .i64 k ∧ s = .bool S ∧ Below w6.heap.size w6 wr ∧ (S || ((lVals p).drop k).any (Venn.cubeV (Venn.valA l ⟨th, a, b, d⟩))) = SV) (fun _ i _ => p.length - (intOf i).toNat)
              case atStart => exact ⟨0, false, Nat.zero_le _, rfl, rfl, Below.refl _ _, HS0.out⟩
              case round =>
                clear HS0 y0 y1 z0 z1 z2 z3
                obtain ⟨k, S, hk, rfl, rfl, hbw, hS⟩ := hrel
                obtain ⟨wo, rfl⟩ : ∃ wo : World, wo = wr := ⟨_, rfl⟩
                by_cases hlt : k < p.length
                · obtain ⟨⟨x, xv⟩, hx⟩ : ∃ x, p[k]? = some x := ⟨p[k], List.getElem?_eq_getElem hlt⟩
                  obtain ⟨ad, rfl, hc0⟩ := HRP.out k xv (by unfold lCells; rw [List.getElem?_map, hx]; rfl)
                  obtain ⟨X, cX, hxv, hrx, hx1, hx2⟩ := HOP.out _ (List.mem_of_getElem? hx)
                  have HXM := Lib.hid (HM.out _ (List.mem_of_getElem? hx))
                  rw [lVals_at hx, List.any_cons, ← Bool.or_assoc] at hS
                  simp only at hxv hrx hx1 hS HXM
                  subst hxv
                  have HRX := Lib.hid hrx
                  have HC0 := Lib.hid hc0
                  have hxl : x.length ≤ 9223372036854775807 := by unfold maxLen at hx2; omega
                  have HQ0 := Lib.hid (show (true && (x.drop 0).all (Venn.litV (Venn.valA l ⟨th, a, b, d⟩))) = Venn.cubeV (Venn.valA l ⟨th, a, b, d⟩) x by rw [List.drop_zero]; rfl)
                  generalize Venn.cubeV (Venn.valA l ⟨th, a, b, d⟩) x = CV at HQ0 hS
                  have HS := Lib.hid hS
                  have hk1 : (k : Int) < (p.length : Int) := by omega
                  have hk0 : (0 : Int) ≤ (k : Int) := by omega
                  clear hx hc0 hrx hx1 hx2 hS
                  go_wp2
                  go_loopw [18, 19] (fun s i wr => ∃ (j : Nat) (Q : Bool), j ≤ x.length ∧ i = .int .i64 j ∧ s = .bool Q ∧ Below w6.heap.size w6 wr ∧ (Q && (x.drop j).all (Venn.litV (Venn.valA l ⟨th, a, b, d⟩))) = CV) (fun _ i _ => x.length - (intOf i).toNat)
                  case atStart => exact ⟨0, true, Nat.zero_le _, rfl, rfl, hbw, HQ0.out⟩
                  case round =>
                    clear HQ0 hbw
                    obtain ⟨j, Q, hj, rfl, rfl, hbw, hQ⟩ := hrel
                    obtain ⟨w7, rfl⟩ : ∃ w7 : World, w7 = wr := ⟨_, rfl⟩
                    have hq7 := Below.next HT6.out.below hbw
                    have hc := cell_keep hq7 HC0.out
                    by_cases hlj : j < x.length
                    · obtain ⟨xd, rfl, hd0⟩ := HRX.out.int hlj
                      have hd := cell_keep hq7 hd0
                      have hj1 : (j : Int) < (x.length : Int) := by omega
                      have hj0 : (0 : Int) ≤ (j : Int) := by omega
                      have hm := HXM.out _ (List.getElem_mem hlj)
                      rw [List.drop_eq_getElem_cons hlj, List.all_cons, ← Bool.and_assoc] at hQ
                      generalize x[j] = m at hd hm hQ
                      obtain ⟨N, hN⟩ : ∃ N : Nat, (N : Int) = Venn.absI m - 1 := ⟨(Venn.absI m - 1).toNat, by unfold Venn.absI; split <;> omega⟩
                      have hNl : N < l.length := by unfold Venn.absI at hN; split at hN <;> omega
                      have hfar : farT m = (N : Int) + 1 := by
                        unfold Venn.absI at hN
                        unfold farT
                        rw [IntWalk.wrap64_in (-m) (by omega)]
                        split at hN <;> split <;> omega
                      obtain ⟨⟨aw, aS, aT, an⟩, hx⟩ : ∃ x, l[N]? = some x := ⟨l[N], List.getElem?_eq_getElem hNl⟩
                      obtain ⟨A', cA', eA, hra, _⟩ := HA.out
                      obtain ⟨ad', sv, tv, eA', g0, g1, g2, g3, hs, ht⟩ := hra N _ hx
                      injection eA with eA1 _ eA2
                      subst eA1 eA2
                      have g0 := cell_keep hq7 g0
                      have g1 := cell_keep hq7 g1
                      have g2 := cell_keep hq7 g2
                      have g3 := cell_keep hq7 g3
                      have HHD := Lib.hid (fun W (hW : Below w.heap.size w W) => ref_Holds aw an sv tv aS aT th a b d W (hs.keep hW) (ht.keep hW) (HAT.out _ (List.mem_of_getElem? hx)) HWC.out)
                      have HLT := Lib.hid (show Venn.litV (Venn.valA l ⟨th, a, b, d⟩) m = (Venn.atomTrue ⟨aw, aS, aT, an⟩ ⟨th, a, b, d⟩ == decide (0 < m)) by
                        unfold Venn.litV
                        congr 1
                        unfold Venn.valA
                        rw [show (Venn.absI m - 1).toNat = N by omega, hx])
                      rw [HLT.out] at hQ
                      generalize Venn.atomTrue ⟨aw, aS, aT, an⟩ ⟨th, a, b, d⟩ = TT at HHD hQ
                      obtain ⟨S1, cS1, rfl, _⟩ := hs
                      obtain ⟨T1, cT1, rfl, _⟩ := ht
                      have HFAR := Lib.hid (fun W => ref_FarT m W)
                      rw [hfar] at HFAR
                      have HQ := Lib.hid hQ
                      have y0 := ((HT6.out.keep hbw).form).cell 0
                      obtain ⟨z0, z1, z2, z3⟩ := ((HT6.out.keep hbw).world).cells4
                      rw [eA'] at y0
                      simp at y0 g0 g1 g2 g3
                      have e1 : IntKind.i64.wrap (N : Int) = (N : Int) := IntWalk.i64_in _ (by omega)
                      have e2 : IntKind.i64.wrap ((N : Int) + 1 - 1) = (N : Int) := by rw [show (N : Int) + 1 - 1 = N by omega]; exact e1
                      have e3 : (N : Int) < (l.length : Int) := by omega
                      have e4 : (0 : Int) ≤ (N : Int) := by omega
                      clear hd0 hm hN hfar hx hra hQ HLT eA'
                      go_wp2_with fail
                      go_region_law (first
                        | (go_simp; go_at_call 17; refine (HFAR.out _).mono ?_; rintro e w8 ⟨rfl, rfl⟩)
                        | (go_simp; go_at_call 16; refine (HHD.out _ (by (repeat' (first | (with_reducible exact Below.refl _ _) | (with_reducible assumption) | (with_reducible refine Below.next ?_ (by with_reducible assumption)) | (with_reducible refine Below.drew ?_) | (with_reducible refine Below.laid ?_ _) | (with_reducible refine Below.setCell ?_ ?_ _) | (with_reducible refine size_of ?_) | (with_reducible refine Nat.le_succ_of_le ?_) | go_size)))).mono ?_; rintro e w8 ⟨rfl, hb8⟩))
                      all_goals
                        have hb9 : Below w6.heap.size w6 w8 := by (repeat' (first | (with_reducible exact Below.refl _ _) | (with_reducible assumption) | (with_reducible refine Below.next ?_ (by with_reducible assumption)) | (with_reducible refine Below.drew ?_) | (with_reducible refine Below.laid ?_ _) | (with_reducible refine Below.setCell ?_ ?_ _) | (with_reducible refine size_of ?_) | (with_reducible refine Nat.le_succ_of_le ?_) | go_size))
                        clear y0 z0 z1 z2 z3 g0 g1 g2 g3 hc hd
                        cases Q
                        all_goals
                          go_wp2
                          go_roundw
                          case rel => exact ⟨j + 1, _, by omega, by go_num, rfl, hb9, HQ.out⟩
                          case measure => simp [intOf]; omega
                    · have hj' : j = x.length := by omega
                      have hj1 : ¬ (j : Int) < (x.length : Int) := by omega
                      have HQC := Lib.hid (show Q = CV by rw [← hQ, hj', List.drop_length]; simp)
                      have HS := Lib.hid (show ((S || Q) || ((lVals p).drop (k + 1)).any (Venn.cubeV (Venn.valA l ⟨th, a, b, d⟩))) = SV by rw [HQC.out]; exact HS.out)
                      clear hQ
                      cases S
                      all_goals
                        go_wp2
                        go_roundw
                        case rel => exact ⟨k + 1, _, by omega, by go_num, rfl, hbw, HS.out⟩
                        case measure => simp [intOf]; omega
                · have hk' : k = p.length := by omega
                  have hk1 : ¬ (k : Int) < (p.length : Int) := by omega
                  have hSV : S = SV := by rw [← hS, hk', List.drop_eq_nil_of_le (by rw [lVals_len]; exact Nat.le_refl _)]; simp
                  subst hSV
                  clear hS
                  have HT7 := Lib.hid (HT6.out.keep hbw)
                  have y0 := ((HT7).out.form).cell 0
                  have y1 := ((HT7).out.form).cell 1
                  obtain ⟨z0, z1, z2, z3⟩ := ((HT7).out.world).cells4
                  simp at y0 y1
                  go_wp2_with fail
                  refine (HHO.out _ HT7.out.below).mono ?_
                  rintro e w8 ⟨rfl, hb8⟩
                  have HT8 := Lib.hid (HT7.out.keep hb8)
                  clear y0 y1 z0 z1 z2 z3
                  go_wp2_with fail
                  rw [← errV_zero rfl]
                  refine (vennsame_Error 0 0 _ (HET.out.keep HT8.out.below)).mono ?_
                  rintro e w9 ⟨rfl, hb9⟩
                  rw [beq_self_eq_true]
                  have hq9 := Below.next HT8.out.below hb9
                  go_wp2
                  go_ret
                  exact ⟨by simp, hq9⟩
            · have HV0 := Lib.hid (show HV = false by rw [HHV.out, if_neg (by rw [HE1.out]; exact hw)])
              rw [HV0.out] at HHO
              have hw' : (Venn.worldChk ⟨th, a, b, d⟩ == 0) = false := beq_eq_false_iff_ne.2 hw
              generalize Venn.worldChk ⟨th, a, b, d⟩ = WC at HHO hw hw' ⊢
              have HE2 := Lib.hid (errV_ne hw)
              rw [HE2.out] at HHO
              rcases Classical.em ((0 : Int) < (p.length : Int)) with hp0 | hp0
              all_goals
                go_wp2
                refine wp_loop_rounds 1 ?_
                rw [rounds_succ]
                go_wp2_with fail
                refine (HHO.out _ HT6.out.below).mono ?_
                rintro e w8 ⟨rfl, hb8⟩
                have HT8 := Lib.hid (HT6.out.keep hb8)
                clear y0 y1 z0 z1 z2 z3
                go_wp2_with fail
                rw [← HE2.out]
                refine (vennsame_Error WC WC _ (HET.out.keep HT8.out.below)).mono ?_
                rintro e w9 ⟨rfl, hb9⟩
                rw [beq_self_eq_true]
                have hq9 := Below.next HT8.out.below hb9
                go_wp2
                go_ret
                exact ⟨rfl, hq9⟩
          · have HBT := Lib.hid (show BB = true from hBB)
            have HE1 := Lib.hid (show HE = 1 by rw [HHE.out, HBT.out]; rfl)
            have HV0 := Lib.hid (show HV = false by rw [HHV.out, if_neg (by rw [HE1.out]; decide)])
            clear hBB
            rw [HE1.out, HV0.out] at HHO
            rcases Classical.em ((0 : Int) < (p.length : Int)) with hp0 | hp0
            all_goals
              go_wp2
              refine wp_loop_rounds 1 ?_
              rw [rounds_succ]
              rw [errV_ne (show (1 : Int) ≠ 0 by decide)] at HHO
              go_wp2_with fail
              refine (HHO.out _ HT5.out.below).mono ?_
              rintro e w8 ⟨rfl, hb8⟩
              have HT8 := Lib.hid (HT5.out.keep hb8)
              clear y0 y1 z0 z1 z2 z3
              go_wp2_with fail
              rw [← errV_ne (show (1 : Int) ≠ 0 by decide)]
              refine (vennsame_Error 1 1 _ (HET.out.keep HT8.out.below)).mono ?_
              rintro e w9 ⟨rfl, hb9⟩
              rw [beq_self_eq_true]
              have hq9 := Below.next HT8.out.below hb9
              go_wp2
              go_ret
              exact ⟨rfl, hq9⟩
    | some M =>
      have HRF := Lib.hid (fun W (hW : Below w.heap.size w W) => ref_Form _ _ l c W (HA.out.keep hW) (HC.out.keep hW))
      rw [hz] at HRF
      obtain ⟨p1, p2, p3, h20, p5, p6, p7⟩ := Venn.formChk_parts hz
      have HAT := Lib.hid (fun x hx => Venn.atomsChk_mem p5 x hx)
      have HRC := Lib.hid (fun W (hW : Below w.heap.size w W) => ref_Cubes (.slice A l.length cA) _ (l.length : Int) c W (HC.out.keep hW) h20 p6 p7)
      have HOF := Lib.hid (fun W (hW : Below w.heap.size w W) => cubes_Of _ _ l c W (HA.out.keep hW) (HC.out.keep hW) (HK.out.keep hW))
      have HHO := Lib.hid (fun W (hW : Below w.heap.size w W) => cubes_Holds _ _ (.slice LA p.length lc) l c (lVals p) th a b d W (HA.out.keep hW) (HC.out.keep hW) (HLV.out.keep hW) (HK.out.keep hW))
      have HHE := Lib.hid (show cHoldsChk ⟨l, c⟩ (lVals p) ⟨th, a, b, d⟩ = (if ((lVals p).any fun c => c.any (badM l.length)) = true then 1 else Venn.worldChk ⟨th, a, b, d⟩) by unfold cHoldsChk; rw [if_pos hz])
      have HHV := Lib.hid (show cHoldsV ⟨l, c⟩ (lVals p) ⟨th, a, b, d⟩ = if cHoldsChk ⟨l, c⟩ (lVals p) ⟨th, a, b, d⟩ = 0 then Venn.someV (Venn.valA l ⟨th, a, b, d⟩) (lVals p) else false from rfl)
      generalize cHoldsV ⟨l, c⟩ (lVals p) ⟨th, a, b, d⟩ = HV at HHV HHO
      generalize cHoldsChk ⟨l, c⟩ (lVals p) ⟨th, a, b, d⟩ = HE at HHV HHE HHO
      have hl6 : l.length ≤ 6 := p2
      have HF := Lib.hid (show Venn.cubesErr ⟨l, c⟩ = 0 ∧ Venn.cubesV ⟨l, c⟩ = M by unfold Venn.cubesErr Venn.cubesV; rw [if_pos hz, if_pos hz, hJ]; exact ⟨rfl, rfl⟩)
      rw [hJ] at HRC
      clear hz hJ p1 p2 p3 h20 p5 p6 p7
      have y0 := ((HT0).out.form).cell 0
      have y1 := ((HT0).out.form).cell 1
      obtain ⟨z0, z1, z2, z3⟩ := ((HT0).out.world).cells4
      simp at y0 y1
      go_wp2_with fail
      refine (HRF.out _ HT0.out.below).mono ?_
      rintro e w1 ⟨rfl, hb1⟩
      have HT1 := Lib.hid (HT0.out.keep hb1)
      clear y0 y1 z0 z1 z2 z3
      have y0 := ((HT1).out.form).cell 0
      have y1 := ((HT1).out.form).cell 1
      obtain ⟨z0, z1, z2, z3⟩ := ((HT1).out.world).cells4
      simp at y0 y1
      go_wp2_with fail
      refine (HRC.out _ HT1.out.below).mono ?_
      rintro e w2 ⟨hb2, ⟨h, _⟩ | ⟨v2, M', h, rfl, hI2⟩⟩
      · cases h
      injection h with h
      subst h
      have HI2 := Lib.hid hI2
      obtain ⟨A2, c2, rfl⟩ := hI2.slice'
      clear hI2
      have HT2 := Lib.hid (HT1.out.keep hb2)
      clear y0 y1 z0 z1 z2 z3
      have y0 := ((HT2).out.form).cell 0
      have y1 := ((HT2).out.form).cell 1
      obtain ⟨z0, z1, z2, z3⟩ := ((HT2).out.world).cells4
      simp at y0 y1
      go_wp2_with fail
      refine (HOF.out _ HT2.out.below).mono ?_
      rintro e w3 ⟨hb3, v3, rfl, hI3⟩
      rw [HF.out.2] at hI3
      rw [HF.out.1]
      have HT3 := Lib.hid (HT2.out.keep hb3)
      have HI3 := Lib.hid hI3
      obtain ⟨A3, c3, rfl⟩ := hI3.slice'
      clear hI3
      clear y0 y1 z0 z1 z2 z3
      rw [errV_zero rfl]
      go_wp2_with fail
      rw [← errV_zero rfl]
      refine (vennsame_Error 0 0 _ (HET.out.keep HT3.out.below)).mono ?_
      rintro e w4 ⟨rfl, hb4⟩
      rw [beq_self_eq_true]
      have HT4 := Lib.hid (HT3.out.keep hb4)
      go_wp2_with fail
      refine (same_Lists _ _ M _ (HI3.out.keep hb4) ((HI2.out.keep hb3).keep hb4)).mono ?_
      rintro e w5 ⟨rfl, hb5⟩
      have HT5 := Lib.hid (HT4.out.keep hb5)
      clear HI2 HI3 hb1 hb2 hb3 hb4 hb5 HT0 HT1 HT2 HT3 HT4 HRF HRC HOF HF
      have HB0 := Lib.hid (show ((lVals p).any fun c => c.any (badM l.length)) = (((lVals p).drop 0).any fun c => c.any (badM l.length)) by rw [List.drop_zero])
      generalize ((lVals p).any fun c => c.any (badM l.length)) = BB at HB0 HHE
      have y0 := ((HT5).out.form).cell 0
      have y1 := ((HT5).out.form).cell 1
      obtain ⟨z0, z1, z2, z3⟩ := ((HT5).out.world).cells4
      simp at y0 y1
      have hw6 : wrap64 (-(l.length : Int)) = -(l.length : Int) := IntWalk.wrap64_in _ (by omega)
      go_wp2
      go_loopw [7, 13] (fun s7 i wr => ∃ (k : Nat) (G : Int), k ≤ p.length ∧ i = .int .i64 k ∧ s7 = .int .i64 G ∧ w5 = wr ∧ ((G = 0 ∧ BB = ((lVals p).drop k).any fun c => c.any (badM l.length)) ∨ (G = 1 ∧ BB = true))) (fun _ i _ => p.length - (intOf i).toNat)
      case atStart => exact ⟨0, 0, Nat.zero_le _, rfl, rfl, (by first | rfl | trivial), .inl ⟨rfl, HB0.out⟩⟩
      case round =>
        obtain ⟨k, G, hk, rfl, rfl, rfl, hG⟩ := hrel
        by_cases hlt : k < p.length
        · have hk1 : (k : Int) < (p.length : Int) := by omega
          have hk0 : (0 : Int) ≤ (k : Int) := by omega
          rcases hG with ⟨rfl, hBB⟩ | ⟨rfl, hBB⟩
          · obtain ⟨⟨x, xv⟩, hx⟩ : ∃ x, p[k]? = some x := ⟨p[k], List.getElem?_eq_getElem hlt⟩
            obtain ⟨ad, rfl, hc0⟩ := HRP.out k xv (by unfold lCells; rw [List.getElem?_map, hx]; rfl)
            have hc := cell_keep HT5.out.below hc0
            obtain ⟨X, cX, hxv, hrx, hx1, hx2⟩ := HOP.out _ (List.mem_of_getElem? hx)
            rw [lVals_at hx, List.any_cons] at hBB
            simp only at hxv hrx hx1 hBB
            subst hxv
            have HRX := Lib.hid hrx
            have HBB := Lib.hid hBB
            have hxl : x.length ≤ 9223372036854775807 := by unfold maxLen at hx2; omega
            have HX0 := Lib.hid (show x.any (badM l.length) = (x.drop 0).any (badM l.length) by rw [List.drop_zero])
            clear hx hc0 hrx hx1 hx2 hBB
            go_wp2
            go_loopw [7, 14] (fun s7 i wr => ∃ (j : Nat) (G : Int), j ≤ x.length ∧ i = .int .i64 j ∧ s7 = .int .i64 G ∧ w5 = wr ∧ ((G = 0 ∧ x.any (badM l.length) = (x.drop j).any (badM l.length)) ∨ (G = 1 ∧ x.any (badM l.length) = true))) (fun _ i _ => x.length - (intOf i).toNat)
            case atStart => exact ⟨0, 0, Nat.zero_le _, rfl, rfl, (by first | rfl | trivial), .inl ⟨rfl, HX0.out⟩⟩
            case round =>
              clear HX0
              obtain ⟨j, G, hj, rfl, rfl, rfl, hG⟩ := hrel
              by_cases hlj : j < x.length
              · obtain ⟨xd, rfl, hd0⟩ := HRX.out.int hlj
                have hd := cell_keep HT5.out.below hd0
                have hj1 : (j : Int) < (x.length : Int) := by omega
                have hj0 : (0 : Int) ≤ (j : Int) := by omega
                have hG' : (badM l.length x[j] = true → x.any (badM l.length) = true) ∧ (G = 0 → badM l.length x[j] = false → x.any (badM l.length) = (x.drop (j + 1)).any (badM l.length)) := by
                  refine ⟨fun h => List.any_eq_true.2 ⟨_, List.getElem_mem hlj, h⟩, fun h0 hb => ?_⟩
                  rcases hG with ⟨_, h⟩ | ⟨h, _⟩
                  · rw [h, List.drop_eq_getElem_cons hlj, List.any_cons, hb, Bool.false_or]
                  · omega
                have HG := Lib.hid (show (G = 0 ∨ (G = 1 ∧ x.any (badM l.length) = true)) from hG.elim (fun h => .inl h.1) .inr)
                generalize x[j] = m at hd hG'
                have HG' := Lib.hid hG'
                clear hd0 hG hG'
                by_cases m0 : m = 0
                · have HB := Lib.hid (show badM l.length m = true by unfold badM; rw [decide_eq_true m0]; rfl)
                  subst m0
                  go_wp2
                  go_roundw
                  case rel => exact ⟨j + 1, 1, by omega, by go_num, rfl, (by first | rfl | trivial), .inr ⟨rfl, HG'.out.1 HB.out⟩⟩
                  case measure => simp [intOf]; omega
                · have m0' : (m == 0) = false := beq_eq_false_iff_ne.2 m0
                  by_cases m1 : m < -(l.length : Int)
                  · have HB := Lib.hid (show badM l.length m = true by unfold badM; rw [decide_eq_true m1]; simp)
                    go_wp2
                    go_roundw
                    case rel => exact ⟨j + 1, 1, by omega, by go_num, rfl, (by first | rfl | trivial), .inr ⟨rfl, HG'.out.1 HB.out⟩⟩
                    case measure => simp [intOf]; omega
                  · by_cases m2 : (l.length : Int) < m
                    · have HB := Lib.hid (show badM l.length m = true by unfold badM; rw [decide_eq_true m2]; simp)
                      go_wp2
                      go_roundw
                      case rel => exact ⟨j + 1, 1, by omega, by go_num, rfl, (by first | rfl | trivial), .inr ⟨rfl, HG'.out.1 HB.out⟩⟩
                      case measure => simp [intOf]; omega
                    · have HB := Lib.hid (show badM l.length m = false by unfold badM; rw [decide_eq_false m0, decide_eq_false m1, decide_eq_false m2]; rfl)
                      go_wp2
                      go_roundw
                      case rel => exact ⟨j + 1, G, by omega, by go_num, rfl, (by first | rfl | trivial), HG.out.elim (fun h => .inl ⟨h, HG'.out.2 h HB.out⟩) .inr⟩
                      case measure => simp [intOf]; omega
              · have hj' : j = x.length := by omega
                have hj1 : ¬ (j : Int) < (x.length : Int) := by omega
                have HG := Lib.hid (show (G = 0 ∧ BB = ((lVals p).drop (k + 1)).any fun c => c.any (badM l.length)) ∨ (G = 1 ∧ BB = true) from by
                  rcases hG with ⟨h, h'⟩ | ⟨h, h'⟩
                  · refine .inl ⟨h, ?_⟩
                    rw [HBB.out, h', hj', List.drop_length]
                    rfl
                  · exact .inr ⟨h, by rw [HBB.out, h', Bool.true_or]⟩)
                clear hG
                go_wp2
                go_roundw
                case rel => exact ⟨k + 1, G, by omega, by go_num, rfl, (by first | rfl | trivial), HG.out⟩
                case measure => simp [intOf]; omega
          · have HBT := Lib.hid (show BB = true from hBB)
            have HE1 := Lib.hid (show HE = 1 by rw [HHE.out, HBT.out]; rfl)
            have HV0 := Lib.hid (show HV = false by rw [HHV.out, if_neg (by rw [HE1.out]; decide)])
            clear hBB
            rw [HE1.out, HV0.out] at HHO
            go_wp2
            refine wp_loop_rounds 1 ?_
            rw [rounds_succ]
            rw [errV_ne (show (1 : Int) ≠ 0 by decide)] at HHO
            go_wp2_with fail
            refine (HHO.out _ HT5.out.below).mono ?_
            rintro e w8 ⟨rfl, hb8⟩
            have HT8 := Lib.hid (HT5.out.keep hb8)
            clear y0 y1 z0 z1 z2 z3
            go_wp2_with fail
            rw [← errV_ne (show (1 : Int) ≠ 0 by decide)]
            refine (vennsame_Error 1 1 _ (HET.out.keep HT8.out.below)).mono ?_
            rintro e w9 ⟨rfl, hb9⟩
            rw [beq_self_eq_true]
            have hq9 := Below.next HT8.out.below hb9
            go_wp2
            go_ret
            exact ⟨rfl, hq9⟩
        · have hk1 : ¬ (k : Int) < (p.length : Int) := by omega
          rcases hG with ⟨rfl, hBB⟩ | ⟨rfl, hBB⟩
          · have hk' : k = p.length := by omega
            have hbf : BB = false := by rw [hBB, hk', List.drop_eq_nil_of_le (by rw [lVals_len]; exact Nat.le_refl _)]; rfl
            have HM := Lib.hid (show ∀ x ∈ p, ∀ m ∈ x.1, m ≠ 0 ∧ -(l.length : Int) ≤ m ∧ m ≤ l.length from fun x hx m hm => by
              have h0 := HB0.out
              rw [hbf, List.drop_zero] at h0
              have h1 := List.any_eq_false.1 h0.symm x.1 (lVals_mem hx)
              have h2 := List.any_eq_false.1 (by simpa using h1) m hm
              exact not_bad (by simpa using h2))
            have HE1 := Lib.hid (show HE = Venn.worldChk ⟨th, a, b, d⟩ by rw [HHE.out, hbf]; rfl)
            clear hBB hbf
            rw [HE1.out] at HHO
            go_wp2_with fail
            refine (ref_World _ _ _ _ _).mono ?_
            rintro e w6 ⟨rfl, hb6⟩
            have HT6 := Lib.hid (HT5.out.keep hb6)
            clear y0 y1 z0 z1 z2 z3
            have y0 := ((HT6).out.form).cell 0
            have y1 := ((HT6).out.form).cell 1
            obtain ⟨z0, z1, z2, z3⟩ := ((HT6).out.world).cells4
            simp at y0 y1
            by_cases hw : Venn.worldChk ⟨th, a, b, d⟩ = 0
            · have HWC := Lib.hid hw
              have HVS := Lib.hid (show HV = Venn.someV (Venn.valA l ⟨th, a, b, d⟩) (lVals p) by rw [HHV.out, if_pos (by rw [HE1.out]; exact hw)])
              rw [hw] at HHO ⊢
              clear hw
              rw [HVS.out] at HHO
              have HS0 := Lib.hid (show (false || ((lVals p).drop 0).any (Venn.cubeV (Venn.valA l ⟨th, a, b, d⟩))) = Venn.someV (Venn.valA l ⟨th, a, b, d⟩) (lVals p) by rw [List.drop_zero]; rfl)
              generalize Venn.someV (Venn.valA l ⟨th, a, b, d⟩) (lVals p) = SV at HHO HS0
              rw [errV_zero rfl] at HHO
              go_wp2
              go_loopw [16, 17] (fun s i wr => ∃ (k : Nat) (S : Bool), k ≤ p.length ∧ i = .int .i64 k ∧ s = .bool S ∧ Below w6.heap.size w6 wr ∧ (S || ((lVals p).drop k).any (Venn.cubeV (Venn.valA l ⟨th, a, b, d⟩))) = SV) (fun _ i _ => p.length - (intOf i).toNat)
              case atStart => exact ⟨0, false, Nat.zero_le _, rfl, rfl, Below.refl _ _, HS0.out⟩
              case round =>
                clear HS0 y0 y1 z0 z1 z2 z3
                obtain ⟨k, S, hk, rfl, rfl, hbw, hS⟩ := hrel
                obtain ⟨wo, rfl⟩ : ∃ wo : World, wo = wr := ⟨_, rfl⟩
                by_cases hlt : k < p.length
                · obtain ⟨⟨x, xv⟩, hx⟩ : ∃ x, p[k]? = some x := ⟨p[k], List.getElem?_eq_getElem hlt⟩
                  obtain ⟨ad, rfl, hc0⟩ := HRP.out k xv (by unfold lCells; rw [List.getElem?_map, hx]; rfl)
                  obtain ⟨X, cX, hxv, hrx, hx1, hx2⟩ := HOP.out _ (List.mem_of_getElem? hx)
                  have HXM := Lib.hid (HM.out _ (List.mem_of_getElem? hx))
                  rw [lVals_at hx, List.any_cons, ← Bool.or_assoc] at hS
                  simp only at hxv hrx hx1 hS HXM
                  subst hxv
                  have HRX := Lib.hid hrx
                  have HC0 := Lib.hid hc0
                  have hxl : x.length ≤ 9223372036854775807 := by unfold maxLen at hx2; omega
                  have HQ0 := Lib.hid (show (true && (x.drop 0).all (Venn.litV (Venn.valA l ⟨th, a, b, d⟩))) = Venn.cubeV (Venn.valA l ⟨th, a, b, d⟩) x by rw [List.drop_zero]; rfl)
                  generalize Venn.cubeV (Venn.valA l ⟨th, a, b, d⟩) x = CV at HQ0 hS
                  have HS := Lib.hid hS
                  have hk1 : (k : Int) < (p.length : Int) := by omega
                  have hk0 : (0 : Int) ≤ (k : Int) := by omega
                  clear hx hc0 hrx hx1 hx2 hS
                  go_wp2
                  go_loopw [18, 19] (fun s i wr => ∃ (j : Nat) (Q : Bool), j ≤ x.length ∧ i = .int .i64 j ∧ s = .bool Q ∧ Below w6.heap.size w6 wr ∧ (Q && (x.drop j).all (Venn.litV (Venn.valA l ⟨th, a, b, d⟩))) = CV) (fun _ i _ => x.length - (intOf i).toNat)
                  case atStart => exact ⟨0, true, Nat.zero_le _, rfl, rfl, hbw, HQ0.out⟩
                  case round =>
                    clear HQ0 hbw
                    obtain ⟨j, Q, hj, rfl, rfl, hbw, hQ⟩ := hrel
                    obtain ⟨w7, rfl⟩ : ∃ w7 : World, w7 = wr := ⟨_, rfl⟩
                    have hq7 := Below.next HT6.out.below hbw
                    have hc := cell_keep hq7 HC0.out
                    by_cases hlj : j < x.length
                    · obtain ⟨xd, rfl, hd0⟩ := HRX.out.int hlj
                      have hd := cell_keep hq7 hd0
                      have hj1 : (j : Int) < (x.length : Int) := by omega
                      have hj0 : (0 : Int) ≤ (j : Int) := by omega
                      have hm := HXM.out _ (List.getElem_mem hlj)
                      rw [List.drop_eq_getElem_cons hlj, List.all_cons, ← Bool.and_assoc] at hQ
                      generalize x[j] = m at hd hm hQ
                      obtain ⟨N, hN⟩ : ∃ N : Nat, (N : Int) = Venn.absI m - 1 := ⟨(Venn.absI m - 1).toNat, by unfold Venn.absI; split <;> omega⟩
                      have hNl : N < l.length := by unfold Venn.absI at hN; split at hN <;> omega
                      have hfar : farT m = (N : Int) + 1 := by
                        unfold Venn.absI at hN
                        unfold farT
                        rw [IntWalk.wrap64_in (-m) (by omega)]
                        split at hN <;> split <;> omega
                      obtain ⟨⟨aw, aS, aT, an⟩, hx⟩ : ∃ x, l[N]? = some x := ⟨l[N], List.getElem?_eq_getElem hNl⟩
                      obtain ⟨A', cA', eA, hra, _⟩ := HA.out
                      obtain ⟨ad', sv, tv, eA', g0, g1, g2, g3, hs, ht⟩ := hra N _ hx
                      injection eA with eA1 _ eA2
                      subst eA1 eA2
                      have g0 := cell_keep hq7 g0
                      have g1 := cell_keep hq7 g1
                      have g2 := cell_keep hq7 g2
                      have g3 := cell_keep hq7 g3
                      have HHD := Lib.hid (fun W (hW : Below w.heap.size w W) => ref_Holds aw an sv tv aS aT th a b d W (hs.keep hW) (ht.keep hW) (HAT.out _ (List.mem_of_getElem? hx)) HWC.out)
                      have HLT := Lib.hid (show Venn.litV (Venn.valA l ⟨th, a, b, d⟩) m = (Venn.atomTrue ⟨aw, aS, aT, an⟩ ⟨th, a, b, d⟩ == decide (0 < m)) by
                        unfold Venn.litV
                        congr 1
                        unfold Venn.valA
                        rw [show (Venn.absI m - 1).toNat = N by omega, hx])
                      rw [HLT.out] at hQ
                      generalize Venn.atomTrue ⟨aw, aS, aT, an⟩ ⟨th, a, b, d⟩ = TT at HHD hQ
                      obtain ⟨S1, cS1, rfl, _⟩ := hs
                      obtain ⟨T1, cT1, rfl, _⟩ := ht
                      have HFAR := Lib.hid (fun W => ref_FarT m W)
                      rw [hfar] at HFAR
                      have HQ := Lib.hid hQ
                      have y0 := ((HT6.out.keep hbw).form).cell 0
                      obtain ⟨z0, z1, z2, z3⟩ := ((HT6.out.keep hbw).world).cells4
                      rw [eA'] at y0
                      simp at y0 g0 g1 g2 g3
                      have e1 : IntKind.i64.wrap (N : Int) = (N : Int) := IntWalk.i64_in _ (by omega)
                      have e2 : IntKind.i64.wrap ((N : Int) + 1 - 1) = (N : Int) := by rw [show (N : Int) + 1 - 1 = N by omega]; exact e1
                      have e3 : (N : Int) < (l.length : Int) := by omega
                      have e4 : (0 : Int) ≤ (N : Int) := by omega
                      clear hd0 hm hN hfar hx hra hQ HLT eA'
                      go_wp2_with fail
                      go_region_law (first
                        | (go_simp; go_at_call 17; refine (HFAR.out _).mono ?_; rintro e w8 ⟨rfl, rfl⟩)
                        | (go_simp; go_at_call 16; refine (HHD.out _ (by (repeat' (first | (with_reducible exact Below.refl _ _) | (with_reducible assumption) | (with_reducible refine Below.next ?_ (by with_reducible assumption)) | (with_reducible refine Below.drew ?_) | (with_reducible refine Below.laid ?_ _) | (with_reducible refine Below.setCell ?_ ?_ _) | (with_reducible refine size_of ?_) | (with_reducible refine Nat.le_succ_of_le ?_) | go_size)))).mono ?_; rintro e w8 ⟨rfl, hb8⟩))
                      all_goals
                        have hb9 : Below w6.heap.size w6 w8 := by (repeat' (first | (with_reducible exact Below.refl _ _) | (with_reducible assumption) | (with_reducible refine Below.next ?_ (by with_reducible assumption)) | (with_reducible refine Below.drew ?_) | (with_reducible refine Below.laid ?_ _) | (with_reducible refine Below.setCell ?_ ?_ _) | (with_reducible refine size_of ?_) | (with_reducible refine Nat.le_succ_of_le ?_) | go_size))
                        clear y0 z0 z1 z2 z3 g0 g1 g2 g3 hc hd
                        cases Q
                        all_goals
                          go_wp2
                          go_roundw
                          case rel => exact ⟨j + 1, _, by omega, by go_num, rfl, hb9, HQ.out⟩
                          case measure => simp [intOf]; omega
                    · have hj' : j = x.length := by omega
                      have hj1 : ¬ (j : Int) < (x.length : Int) := by omega
                      have HQC := Lib.hid (show Q = CV by rw [← hQ, hj', List.drop_length]; simp)
                      have HS := Lib.hid (show ((S || Q) || ((lVals p).drop (k + 1)).any (Venn.cubeV (Venn.valA l ⟨th, a, b, d⟩))) = SV by rw [HQC.out]; exact HS.out)
                      clear hQ
                      cases S
                      all_goals
                        go_wp2
                        go_roundw
                        case rel => exact ⟨k + 1, _, by omega, by go_num, rfl, hbw, HS.out⟩
                        case measure => simp [intOf]; omega
                · have hk' : k = p.length := by omega
                  have hk1 : ¬ (k : Int) < (p.length : Int) := by omega
                  have hSV : S = SV := by rw [← hS, hk', List.drop_eq_nil_of_le (by rw [lVals_len]; exact Nat.le_refl _)]; simp
                  subst hSV
                  clear hS
                  have HT7 := Lib.hid (HT6.out.keep hbw)
                  have y0 := ((HT7).out.form).cell 0
                  have y1 := ((HT7).out.form).cell 1
                  obtain ⟨z0, z1, z2, z3⟩ := ((HT7).out.world).cells4
                  simp at y0 y1
                  go_wp2_with fail
                  refine (HHO.out _ HT7.out.below).mono ?_
                  rintro e w8 ⟨rfl, hb8⟩
                  have HT8 := Lib.hid (HT7.out.keep hb8)
                  clear y0 y1 z0 z1 z2 z3
                  go_wp2_with fail
                  rw [← errV_zero rfl]
                  refine (vennsame_Error 0 0 _ (HET.out.keep HT8.out.below)).mono ?_
                  rintro e w9 ⟨rfl, hb9⟩
                  rw [beq_self_eq_true]
                  have hq9 := Below.next HT8.out.below hb9
                  go_wp2
                  go_ret
                  exact ⟨by simp, hq9⟩
            · have HV0 := Lib.hid (show HV = false by rw [HHV.out, if_neg (by rw [HE1.out]; exact hw)])
              rw [HV0.out] at HHO
              have hw' : (Venn.worldChk ⟨th, a, b, d⟩ == 0) = false := beq_eq_false_iff_ne.2 hw
              generalize Venn.worldChk ⟨th, a, b, d⟩ = WC at HHO hw hw' ⊢
              have HE2 := Lib.hid (errV_ne hw)
              rw [HE2.out] at HHO
              rcases Classical.em ((0 : Int) < (p.length : Int)) with hp0 | hp0
              all_goals
                go_wp2
                refine wp_loop_rounds 1 ?_
                rw [rounds_succ]
                go_wp2_with fail
                refine (HHO.out _ HT6.out.below).mono ?_
                rintro e w8 ⟨rfl, hb8⟩
                have HT8 := Lib.hid (HT6.out.keep hb8)
                clear y0 y1 z0 z1 z2 z3
                go_wp2_with fail
                rw [← HE2.out]
                refine (vennsame_Error WC WC _ (HET.out.keep HT8.out.below)).mono ?_
                rintro e w9 ⟨rfl, hb9⟩
                rw [beq_self_eq_true]
                have hq9 := Below.next HT8.out.below hb9
                go_wp2
                go_ret
                exact ⟨rfl, hq9⟩
          · have HBT := Lib.hid (show BB = true from hBB)
            have HE1 := Lib.hid (show HE = 1 by rw [HHE.out, HBT.out]; rfl)
            have HV0 := Lib.hid (show HV = false by rw [HHV.out, if_neg (by rw [HE1.out]; decide)])
            clear hBB
            rw [HE1.out, HV0.out] at HHO
            rcases Classical.em ((0 : Int) < (p.length : Int)) with hp0 | hp0
            all_goals
              go_wp2
              refine wp_loop_rounds 1 ?_
              rw [rounds_succ]
              rw [errV_ne (show (1 : Int) ≠ 0 by decide)] at HHO
              go_wp2_with fail
              refine (HHO.out _ HT5.out.below).mono ?_
              rintro e w8 ⟨rfl, hb8⟩
              have HT8 := Lib.hid (HT5.out.keep hb8)
              clear y0 y1 z0 z1 z2 z3
              go_wp2_with fail
              rw [← errV_ne (show (1 : Int) ≠ 0 by decide)]
              refine (vennsame_Error 1 1 _ (HET.out.keep HT8.out.below)).mono ?_
              rintro e w9 ⟨rfl, hb9⟩
              rw [beq_self_eq_true]
              have hq9 := Below.next HT8.out.below hb9
              go_wp2
              go_ret
              exact ⟨rfl, hq9⟩
  · have HF := Lib.hid (show errV (Venn.cubesErr ⟨l, c⟩) = errV (Venn.formChk ⟨l, c⟩) ∧ Venn.cubesV ⟨l, c⟩ = [] by unfold Venn.cubesErr Venn.cubesV; rw [if_neg hz, if_neg hz]; exact ⟨rfl, rfl⟩)
    have HH := Lib.hid (show cHoldsChk ⟨l, c⟩ (lVals p) ⟨th, a, b, d⟩ = Venn.formChk ⟨l, c⟩ ∧ cHoldsV ⟨l, c⟩ (lVals p) ⟨th, a, b, d⟩ = false from by
      have h : cHoldsChk ⟨l, c⟩ (lVals p) ⟨th, a, b, d⟩ = Venn.formChk ⟨l, c⟩ := by unfold cHoldsChk; rw [if_neg hz]
      exact ⟨h, by unfold cHoldsV; rw [h, if_neg hz]⟩)
    have HRF := Lib.hid (fun W (hW : Below w.heap.size w W) => ref_Form _ _ l c W (HA.out.keep hW) (HC.out.keep hW))
    have HOF := Lib.hid (fun W (hW : Below w.heap.size w W) => cubes_Of _ _ l c W (HA.out.keep hW) (HC.out.keep hW) (HK.out.keep hW))
    have HHO := Lib.hid (fun W (hW : Below w.heap.size w W) => cubes_Holds _ _ (.slice LA p.length lc) l c (lVals p) th a b d W (HA.out.keep hW) (HC.out.keep hW) (HLV.out.keep hW) (HK.out.keep hW))
    rw [HH.out.1, HH.out.2] at HHO
    have hz' : (Venn.formChk ⟨l, c⟩ == 0) = false := beq_eq_false_iff_ne.2 hz
    generalize Venn.formChk ⟨l, c⟩ = E at HF HRF HHO hz hz'
    clear HH
    have y0 := ((HT0).out.form).cell 0
    have y1 := ((HT0).out.form).cell 1
    obtain ⟨z0, z1, z2, z3⟩ := ((HT0).out.world).cells4
    simp at y0 y1
    go_wp2_with fail
    refine (HRF.out _ HT0.out.below).mono ?_
    rintro e w1 ⟨rfl, hb1⟩
    have HT1 := Lib.hid (HT0.out.keep hb1)
    clear y0 y1 z0 z1 z2 z3
    have y0 := ((HT1).out.form).cell 0
    have y1 := ((HT1).out.form).cell 1
    obtain ⟨z0, z1, z2, z3⟩ := ((HT1).out.world).cells4
    simp at y0 y1
    go_wp2_with fail
    refine (HOF.out _ HT1.out.below).mono ?_
    rintro e w2 ⟨hb2, v2, rfl, hI2⟩
    rw [HF.out.2] at hI2
    rw [HF.out.1]
    have HT2 := Lib.hid (HT1.out.keep hb2)
    have HI2 := Lib.hid hI2
    obtain ⟨A2, c2, rfl⟩ := hI2.slice'
    clear y0 y1 z0 z1 z2 z3
    clear hI2
    have HE := Lib.hid (errV_ne hz)
    rw [HE.out]
    go_wp2_with fail
    rw [← HE.out]
    refine (vennsame_Error E E _ (HET.out.keep HT2.out.below)).mono ?_
    rintro e w3 ⟨rfl, hb3⟩
    rw [beq_self_eq_true]
    have HT3 := Lib.hid (HT2.out.keep hb3)
    go_wp2_with fail
    refine (same_Lists _ _ [] _ (HI2.out.keep hb3) (IsLists.nil _)).mono ?_
    rintro e w4 ⟨rfl, hb4⟩
    have HT4 := Lib.hid (HT3.out.keep hb4)
    clear HI2
    have y0 := (HT4.out.form).cell 0
    have y1 := (HT4.out.form).cell 1
    obtain ⟨z0, z1, z2, z3⟩ := (HT4.out.world).cells4
    simp at y0 y1
    rcases Classical.em ((0 : Int) < (p.length : Int)) with hp0 | hp0
    all_goals
      go_wp2
      refine wp_loop_rounds 1 ?_
      rw [rounds_succ]
      go_wp2
      refine wp_loop_rounds 1 ?_
      rw [rounds_succ]
      go_wp2_with fail
      refine (HHO.out _ HT4.out.below).mono ?_
      rintro e w5 ⟨rfl, hb5⟩
      have HT5 := Lib.hid (HT4.out.keep hb5)
      clear y0 y1 z0 z1 z2 z3
      rw [HE.out]
      go_wp2_with fail
      rw [← HE.out]
      refine (vennsame_Error E E _ (HET.out.keep HT5.out.below)).mono ?_
      rintro e w6 ⟨rfl, hb6⟩
      rw [beq_self_eq_true]
      have hq6 := Below.next HT5.out.below hb6
      go_wp2
      go_ret
      exact ⟨rfl, hq6⟩
end Go.Proofs.YtlpfbdejiifbpaaGreatDoor
