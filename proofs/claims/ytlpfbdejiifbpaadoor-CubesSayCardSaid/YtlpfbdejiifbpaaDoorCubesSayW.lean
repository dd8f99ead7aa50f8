/-
  THE WALK of vennlaw1.CubesSay.
-/
import Derived.Test.YtlpfbdejiifbpaaDoorCubesOneW
import Derived.Test.YtlpfbdejiifbpaaDoorVennSay
import Derived.Test.YtlpfbdejiifbpaaDoorFormHolds
import Derived.Test.YtlpfbdejiifbpaaDoorSame
namespace Venn
theorem cubes_say_f {f : Form} {l : List (List Int)} (h : formChk f = 0) (e : cubesO f.code = some l) : (∀ c ∈ l, c.Pairwise fun x y => absI x < absI y) ∧ (∀ c ∈ l, ∀ m ∈ c, -6 ≤ m ∧ m ≤ 6) ∧ l.Nodup ∧ l.length ≤ 40 := by
  have hc := cubesO_ok h e
  refine ⟨fun c hm => (hc.1.1 c hm).2.1, fun c hm m hx => ?_, hc.1.2, hc.2⟩
  have := mOk_iff.1 ((hc.1.1 c hm).1 m hx)
  omega
end Venn
namespace Go.Proofs.YtlpfbdejiifbpaaDoor
open Go.RowKit

theorem cHolds_say {f : Venn.Form} {l : List (List Int)} (h : Venn.formChk f = 0) (e : Venn.cubesO f.code = some l) (w : Venn.World) : cHoldsChk f l w = Venn.formHoldsChk f w ∧ cHoldsV f l w = Venn.formHoldsV f w := by
  have hb : (l.any fun c => c.any (badM f.atoms.length)) = false := by
    rw [List.any_eq_false]
    intro c hc
    rw [Bool.not_eq_true, List.any_eq_false]
    intro m hm
    have := Venn.cubes_in h e c hc m hm
    unfold badM
    rw [decide_eq_false (by omega), decide_eq_false (by omega), decide_eq_false (by omega)]
    decide
  have h1 : cHoldsChk f l w = Venn.formHoldsChk f w := by
    unfold cHoldsChk Venn.formHoldsChk
    rw [if_pos h, if_pos h, hb]
    rfl
  refine ⟨h1, ?_⟩
  unfold cHoldsV Venn.formHoldsV
  rw [h1, Venn.cubes_say h e]
def farR (n : Int) : Int := if n < 0 then wrap64 (-n) else n
theorem farR_abs {n : Int} (h : -20 ≤ n ∧ n ≤ 20) : farR n = Venn.absI n := by
  unfold farR Venn.absI
  rw [IntWalk.wrap64_in (-n) (by omega)]
theorem ref_FarR (n : Int) (w : World) : Calls Tryd.prog 18 #[.int .i64 n] w (Pure (.int .i64 (farR n)) w) := by
  unfold farR
  by_cases h0 : n < 0
  · rw [if_pos h0]
    go_enter Tryd.func18, Tryd.ntmps18
    go_wp2
    go_ret
    exact ⟨rfl, rfl⟩
  · rw [if_neg h0]
    go_enter Tryd.func18, Tryd.ntmps18
    go_wp2
    go_ret
    exact ⟨rfl, rfl⟩
theorem lists_open2 {w : World} {v : Value} {x y : Int} (h : IsLists w v [[x], [y]]) : ∃ g o z c X cX Y cY, v = .slice (some ⟨g, o, z⟩) 2 c ∧ w.cell? ⟨g, o, z⟩ = some (.slice (some X) 1 cX) ∧ w.cell? ⟨g, o + 1, none⟩ = some (.slice (some Y) 1 cY) ∧ w.cell? X = some (.int .i64 x) ∧ w.cell? Y = some (.int .i64 y) := by
  obtain ⟨A, c, p, rfl, hp, hr, hok, _⟩ := h
  have hlen : p.length = 2 := by have := congrArg List.length hp; rw [lVals_len] at this; exact this
  match p, hlen, hp with
  | [a, b], _, hp =>
    simp only [lVals, List.map_cons, List.map_nil, List.cons.injEq, and_true] at hp
    obtain ⟨ha, hb⟩ := hp
    obtain ⟨⟨g, o, z⟩, rfl, h0⟩ := hr 0 a.2 rfl
    obtain ⟨ad', e, h1⟩ := hr 1 b.2 rfl
    injection e with e
    subst e
    have ia := hok a (by simp)
    have ib := hok b (by simp)
    rw [ha] at ia
    rw [hb] at ib
    obtain ⟨X, cX, ea, hX⟩ := ints_open1 ia
    obtain ⟨Y, cY, eb, hY⟩ := ints_open1 ib
    rw [ea] at h0
    rw [eb] at h1
    exact ⟨g, o, z, c, X, cX, Y, cY, rfl, by simpa [Addr.add] using h0, by simpa [Addr.add] using h1, hX, hY⟩

theorem atoms_two {w : World} {g : Nat} {t : TypeId} {x y : Venn.Atom} {sv tv su tu : Value} (h : Blk w g t #[.int .i64 x.what, sv, tv, .int .i64 x.n, .int .i64 y.what, su, tu, .int .i64 y.n]) (hs : IsInts w sv x.s) (ht : IsInts w tv x.t) (ks : IsInts w su y.s) (kt : IsInts w tu y.t) :
    IsAtoms w (.slice (some ⟨g, 0, none⟩) 2 2) [x, y] := by
  refine ⟨_, _, rfl, fun k z hz => ?_, Nat.le_refl _, by simp [maxLen]⟩
  match k, hz with
  | 0, hz =>
    simp at hz
    subst hz
    exact ⟨_, sv, tv, rfl, h.cell 0, h.cell 1, h.cell 2, h.cell 3, hs, ht⟩
  | 1, hz =>
    simp at hz
    subst hz
    exact ⟨_, su, tu, rfl, h.cell 4, h.cell 5, h.cell 6, h.cell 7, ks, kt⟩
/-- The formula that the fact is about. -/
def factF : Venn.Form := ⟨[⟨3, [0], [], 1⟩, ⟨4, [1], [], 2⟩], [0, 1, 13]⟩
theorem fact_at (w : World) : ∃ W, W = (((((w.alloc (.cells #[.int .i64 0] 3)).alloc (.cells #[.int .i64 1] 3)).alloc (.cells #[.int .i64 3, .slice (some ⟨w.heap.size, 0, none⟩) 1 1, .slice none 0 0, .int .i64 1, .int .i64 4, .slice (some ⟨w.heap.size + 1, 0, none⟩) 1 1, .slice none 0 0, .int .i64 2] 32)).alloc (.cells #[.int .i64 0, .int .i64 1, .int .i64 13] 3)).alloc (.cells #[.slice (some ⟨w.heap.size + 1 + 1, 0, none⟩) 2 2, .slice (some ⟨w.heap.size + 1 + 1 + 1, 0, none⟩) 3 3] 25)) ∧
    Below w.heap.size w W ∧ Blk W (w.heap.size + 1 + 1 + 1 + 1) 25 #[.slice (some ⟨w.heap.size + 1 + 1, 0, none⟩) 2 2, .slice (some ⟨w.heap.size + 1 + 1 + 1, 0, none⟩) 3 3] ∧ IsAtoms W (.slice (some ⟨w.heap.size + 1 + 1, 0, none⟩) 2 2) factF.atoms ∧ IsInts W (.slice (some ⟨w.heap.size + 1 + 1 + 1, 0, none⟩) 3 3) factF.code := by
  refine ⟨_, rfl, by (repeat' (first | (with_reducible exact Below.refl _ _) | (with_reducible assumption) | (with_reducible refine Below.next ?_ (by with_reducible assumption)) | (with_reducible refine Below.drew ?_) | (with_reducible refine Below.laid ?_ _) | (with_reducible refine Below.setCell ?_ ?_ _) | (with_reducible refine size_of ?_) | (with_reducible refine Nat.le_succ_of_le ?_) | go_size)), Blk.newAt (by simp) _ _, atoms_two (x := ⟨3, [0], [], 1⟩) (y := ⟨4, [1], [], 2⟩) (((Blk.newAt (by simp) _ _).alloc _).alloc _) ?_ (IsIntsNil _) ?_ (IsIntsNil _), ints_of_blk (l := [0, 1, 13]) ((Blk.newAt (by simp) _ _).alloc _) (by simp [maxLen])⟩
  · exact ints_of_blk (l := [0]) (((((Blk.new w _ _).alloc _).alloc _).alloc _).alloc _) (by simp [maxLen])
  · exact ints_of_blk (l := [1]) ((((Blk.newAt (by simp) _ _).alloc _).alloc _).alloc _) (by simp [maxLen])
theorem fact_cubes : Venn.cubesErr factF = 0 ∧ Venn.cubesV factF = [[-1], [2]] := by
  have h : Venn.formChk factF = 0 := by decide
  unfold Venn.cubesErr Venn.cubesV
  rw [if_pos h, if_pos h, show Venn.cubesO factF.code = some [[-1], [2]] from rfl]
  exact ⟨rfl, rfl⟩
set_option maxHeartbeats 8000000 in
set_option maxRecDepth 100000 in
theorem cubesSay_walk (sa sc : Value) (l : List Venn.Atom) (c : List Int) (th a b d : Int) (w : World) (ha : IsAtoms w sa l) (hc : IsInts w sc c) (hk : KindsOk w) :
    Calls Tryd.prog 5 #[.agg #[sa, sc], .agg #[.int .i64 th, .int .i64 a, .int .i64 b, .int .i64 d]] w (Keeps (.bool true) w) := by
  have HA := Lib.hid ha
  have HC := Lib.hid hc
  have HK := Lib.hid hk
  obtain ⟨A, cA, rfl, _⟩ := ha
  obtain ⟨C, cC, rfl, _⟩ := hc
  have hb0 : Below w.heap.size w ((w.alloc (.cells #[.slice A l.length cA, .slice C c.length cC] 25)).alloc (.cells #[.int .i64 th, .int .i64 a, .int .i64 b, .int .i64 d] 28)) := by (repeat' (first | (with_reducible exact Below.refl _ _) | (with_reducible assumption) | (with_reducible refine Below.next ?_ (by with_reducible assumption)) | (with_reducible refine Below.drew ?_) | (with_reducible refine Below.laid ?_ _) | (with_reducible refine Below.setCell ?_ ?_ _) | (with_reducible refine size_of ?_) | (with_reducible refine Nat.le_succ_of_le ?_) | go_size))
  have HBF := Lib.hid ((Blk.new w 25 #[.slice A l.length cA, .slice C c.length cC]).alloc (.cells #[.int .i64 th, .int .i64 a, .int .i64 b, .int .i64 d] 28))
  have HBW := Lib.hid (Blk.newAt (w := w.alloc (.cells #[.slice A l.length cA, .slice C c.length cC] 25)) (g := w.heap.size + 1) (by simp) 28 #[.int .i64 th, .int .i64 a, .int .i64 b, .int .i64 d])
  clear hk
  go_enter Tryd.func5, Tryd.ntmps5
  go_upto_region 1 with (fail)
  revert hb0 HBF HBW
  generalize (w.alloc (.cells #[.slice A l.length cA, .slice C c.length cC] 25)).alloc (.cells #[.int .i64 th, .int .i64 a, .int .i64 b, .int .i64 d] 28) = w0
  intro hb0 HBF HBW
  go_upto_region 2 with (fail)
  obtain ⟨W1, hW1, hb1, B1, a1, i1⟩ := fact_at w0
  have HB1 := Lib.hid B1
  have x0 := B1.cell 0
  have x1 := B1.cell 1
  simp at x0 x1
  rw [← hW1]
  have HF := Lib.hid fact_cubes
  have hq1 := Below.next hb0 hb1
  have HBF1 := Lib.hid (HBF.out.keep hb1)
  have HBW1 := Lib.hid (HBW.out.keep hb1)
  have HCF := Lib.hid (cubes_Of _ _ factF.atoms factF.code W1 a1 i1 (HK.out.keep hq1))
  clear hW1 hb0 HBF HBW B1 a1 i1
  go_wp2_with fail
  refine (HCF.out).mono ?_
  rintro e w2 ⟨hb2, v2, rfl, hI2⟩
  rw [show Venn.cubesV ⟨factF.atoms, factF.code⟩ = [[-1], [2]] from HF.out.2] at hI2
  rw [show Venn.cubesErr ⟨factF.atoms, factF.code⟩ = 0 from HF.out.1, errV_zero rfl]
  obtain ⟨g, o, z, k, X, cX, Y, cY, rfl, d0, d1, d2, d3⟩ := lists_open2 hI2
  have hq2 := Below.next hq1 hb2
  have HBF2 := Lib.hid (HBF1.out.keep hb2)
  have HBW2 := Lib.hid (HBW1.out.keep hb2)
  clear hI2 HCF HBF1 HBW1 HB1 x0 x1
  go_upto_region 5 with (fail)
  clear d0 d1 d2 d3
  have y0 := (HBF2.out).cell 0
  have y1 := (HBF2.out).cell 1
  simp at y0 y1
  have HCF := Lib.hid (cubes_Of _ _ l c w2 (HA.out.keep hq2) (HC.out.keep hq2) (HK.out.keep hq2))
  by_cases he : Venn.cubesErr ⟨l, c⟩ = 0
  · have hz : Venn.formChk ⟨l, c⟩ = 0 := by
      unfold Venn.cubesErr at he
      split at he
      · assumption
      · exact he
    obtain ⟨L, hL⟩ : ∃ L, Venn.cubesO c = some L := by
      unfold Venn.cubesErr at he
      rw [if_pos hz] at he
      cases hx : Venn.cubesO c with
      | none => rw [hx] at he; cases he
      | some L => exact ⟨L, rfl⟩
    have hv : Venn.cubesV ⟨l, c⟩ = L := by unfold Venn.cubesV; rw [if_pos hz]; show (match Venn.cubesO c with | none => [] | some l => l) = L; rw [hL]
    obtain ⟨s1, s2, s3, s4⟩ := Venn.cubes_say_f hz hL
    obtain ⟨t1, t2⟩ := cHolds_say hz hL ⟨th, a, b, d⟩
    have HE := Lib.hid (errV_zero he)
    have HV := Lib.hid hv
    have HS1 := Lib.hid s1
    have HS2 := Lib.hid s2
    have HS3 := Lib.hid s3
    have HT := Lib.hid (And.intro t1 t2)
    clear he hz hL hv s1 s2 s3 t1 t2
    go_wp2_with fail
    refine (HCF.out).mono ?_
    rintro e w3 ⟨hb3, v3, rfl, hI3⟩
    rw [HV.out] at hI3
    rw [HE.out]
    obtain ⟨P, k3, p, rfl, rfl, hrp, hop, s5, s6⟩ := hI3
    rw [lVals_len] at s4
    have HRP := Lib.hid hrp
    have HOP := Lib.hid hop
    have hq3 := Below.next hq2 hb3
    have HBF3 := Lib.hid (HBF2.out.keep hb3)
    have HBW3 := Lib.hid (HBW2.out.keep hb3)
    clear hrp hop HCF HBF2 HBW2 y0 y1 hb3
    have s4' : ¬ (40 : Int) < (p.length : Int) := by omega
    go_upto_region 8 with (fail)
    go_wp2
    go_loopw [10] (fun i wr => ∃ m : Nat, m ≤ p.length ∧ i = .int .i64 m ∧ Below w3.heap.size w3 wr) (fun i _ => p.length - (intOf i).toNat)
    case atStart => exact ⟨0, Nat.zero_le _, rfl, Below.refl _ _⟩
    case round =>
      obtain ⟨m, hm, rfl, hbw⟩ := hrel
      obtain ⟨wo, rfl⟩ : ∃ wo : World, wo = wr := ⟨_, rfl⟩
      by_cases hlt : m < p.length
      · obtain ⟨⟨x, xv⟩, hx⟩ : ∃ x, p[m]? = some x := ⟨p[m], List.getElem?_eq_getElem hlt⟩
        obtain ⟨ad, rfl, hc0⟩ := HRP.out m xv (by unfold lCells; rw [List.getElem?_map, hx]; rfl)
        have HXI := Lib.hid (HOP.out _ (List.mem_of_getElem? hx))
        obtain ⟨X1, cX1, hxv, hrx, hx1, hx2⟩ := HOP.out _ (List.mem_of_getElem? hx)
        have HPW := Lib.hid (HS1.out _ (lVals_mem (List.mem_of_getElem? hx)))
        have HBD := Lib.hid (HS2.out _ (lVals_mem (List.mem_of_getElem? hx)))
        have HXN := Lib.hid (show ∀ (j : Nat) (y : LV), j < m → p[j]? = some y → (x == y.1) = false from fun j y hj hy => by
          refine beq_eq_false_iff_ne.2 fun e => ?_
          have h1 : (lVals p)[j]? = some y.1 := by unfold lVals; rw [List.getElem?_map, hy]; rfl
          have h2 : (lVals p)[m]? = some x := by unfold lVals; rw [List.getElem?_map, hx]; rfl
          obtain ⟨g1, q1⟩ := List.getElem?_eq_some_iff.1 h1
          obtain ⟨g2, q2⟩ := List.getElem?_eq_some_iff.1 h2
          have := (List.pairwise_iff_getElem.1 HS3.out) j m g1 g2 hj
          rw [q1, q2] at this
          exact this e.symm)
        simp only at hxv hrx hx1 HPW HBD HXI
        subst hxv
        have HRX := Lib.hid hrx
        have HC0 := Lib.hid hc0
        have hm1 : (m : Int) < (p.length : Int) := by omega
        have hm0 : (0 : Int) ≤ (m : Int) := by omega
        have hl6 : x.length ≤ 9223372036854775807 := by have h3 := hx2; unfold maxLen at h3; omega
        clear hx hc0 hrx hx1 hx2
        go_wp2
        go_loopw [11] (fun i wr => ∃ j : Nat, (j + 1 ≤ x.length ∨ j = 0) ∧ i = .int .i64 ((j + 1 : Nat) : Int) ∧ Below w3.heap.size w3 wr) (fun i _ => x.length - (intOf i).toNat)
        case atStart => exact ⟨0, .inr rfl, rfl, hbw⟩
        case round =>
          clear hbw
          obtain ⟨j, hj, rfl, hbw⟩ := hrel
          obtain ⟨w4, rfl⟩ : ∃ w4 : World, w4 = wr := ⟨_, rfl⟩
          have hc := cell_keep hbw HC0.out
          by_cases hlj : j + 1 < x.length
          · obtain ⟨xd, rfl, hd0⟩ := HRX.out.int hlj
            obtain ⟨xd', e', hd1⟩ := HRX.out.int (show j < x.length by omega)
            injection e' with e'
            subst e'
            have hd0 := cell_keep hbw hd0
            have hd1 := cell_keep hbw hd1
            have hpw := (List.pairwise_iff_getElem.1 HPW.out) j (j + 1) (by omega) hlj (by omega)
            have hb1 := HBD.out _ (List.getElem_mem hlj)
            have hb2 := HBD.out _ (List.getElem_mem (show j < x.length by omega))
            generalize x[j + 1] = y1 at hd0 hpw hb1
            generalize x[j] = y0 at hd1 hpw hb2
            have e1 : farR y1 = Venn.absI y1 := farR_abs (by omega)
            have e0 : farR y0 = Venn.absI y0 := farR_abs (by omega)
            generalize Venn.absI y1 = F1 at e1 hpw
            generalize Venn.absI y0 = F0 at e0 hpw
            have hle : ¬ F1 ≤ F0 := by omega
            have hj1 : ((j + 1 : Nat) : Int) < (x.length : Int) := by omega
            have hj0 : (0 : Int) ≤ ((j + 1 : Nat) : Int) := by omega
            have hj2 : IntKind.i64.wrap (((j + 1 : Nat) : Int) - 1) = (j : Int) := by rw [IntWalk.i64_in _ (by omega)]; omega
            have hj3 : (0 : Int) ≤ (j : Int) := by omega
            have hk1 : (j : Int) + 1 < (x.length : Int) := by omega
            have hk0 : (0 : Int) ≤ (j : Int) + 1 := by omega
            have hd2 : w4.cell? ⟨xd.block, xd.off + (j + 1), none⟩ = some (.int .i64 y1) := by have := hd0; unfold Addr.add at this; rwa [if_neg (by omega)] at this
            have hk2 : IntKind.i64.wrap ((j : Int) + 1 - 1) = (j : Int) := by rw [show (j : Int) + 1 - 1 = j by omega]; exact IntWalk.i64_in _ (by omega)
            have hk3 : IntKind.i64.wrap (j : Int) = (j : Int) := IntWalk.i64_in _ (by omega)
            have hj4 : (j : Int) < (x.length : Int) := by omega
            clear hpw hb1 hb2
            go_wp2_with fail
            go_region_law (go_simp; go_at_call 18; refine (ref_FarR _ _).mono ?_; rintro e w5 ⟨rfl, rfl⟩)
            all_goals
              go_wp2
              go_roundw
              case rel => exact ⟨j + 1, .inl (by omega), by go_num, below_drewN hbw _⟩
              case measure => simp [intOf]; omega
          · have hj1 : ¬ ((j + 1 : Nat) : Int) < (x.length : Int) := by omega
            go_wp2
            clear hc
            go_loopw [12] (fun i wr => ∃ n : Nat, n ≤ m ∧ i = .int .i64 n ∧ Below w3.heap.size w3 wr) (fun i _ => m - (intOf i).toNat)
            case atStart => exact ⟨0, Nat.zero_le _, rfl, hbw⟩
            case round =>
              clear hbw
              obtain ⟨n, hn, rfl, hbw⟩ := hrel
              obtain ⟨w5, rfl⟩ : ∃ w5 : World, w5 = wr := ⟨_, rfl⟩
              by_cases hln : n < m
              · obtain ⟨⟨y, yv⟩, hy⟩ : ∃ x, p[n]? = some x := ⟨p[n], List.getElem?_eq_getElem (by omega)⟩
                obtain ⟨ad', e', hd0⟩ := HRP.out n yv (by unfold lCells; rw [List.getElem?_map, hy]; rfl)
                injection e' with e'
                subst e'
                have hc := cell_keep hbw HC0.out
                have hd := cell_keep hbw hd0
                have hne := HXN.out n _ hln hy
                have HSI := Lib.hid (fun W (hW : Below w3.heap.size w3 W) => same_Ints _ yv x y W (HXI.out.keep hW) ((HOP.out _ (List.mem_of_getElem? hy)).keep hW))
                simp only at hne
                rw [hne] at HSI
                have hn1 : (n : Int) < (m : Int) := by omega
                have hn0 : (0 : Int) ≤ (n : Int) := by omega
                have hn2 : (n : Int) < (p.length : Int) := by omega
                obtain ⟨Y1, cY1, hyv, _⟩ := HOP.out _ (List.mem_of_getElem? hy)
                simp only at hyv
                subst hyv
                clear hy hd0 hne
                go_wp2_with fail
                go_region_law (go_simp; go_at_call 19; refine (HSI.out _ (by (repeat' (first | (with_reducible exact Below.refl _ _) | (with_reducible assumption) | (with_reducible refine Below.next ?_ (by with_reducible assumption)) | (with_reducible refine Below.drew ?_) | (with_reducible refine Below.laid ?_ _) | (with_reducible refine Below.setCell ?_ ?_ _) | (with_reducible refine size_of ?_) | (with_reducible refine Nat.le_succ_of_le ?_) | go_size)))).mono ?_; rintro e w6 ⟨rfl, hb6⟩)
                all_goals
                  go_wp2
                  go_roundw
                  case rel => exact ⟨n + 1, by omega, by go_num, by (repeat' (first | (with_reducible exact Below.refl _ _) | (with_reducible assumption) | (with_reducible refine Below.next ?_ (by with_reducible assumption)) | (with_reducible refine Below.drew ?_) | (with_reducible refine Below.laid ?_ _) | (with_reducible refine Below.setCell ?_ ?_ _) | (with_reducible refine size_of ?_) | (with_reducible refine Nat.le_succ_of_le ?_) | go_size))⟩
                  case measure => simp [intOf]; omega
              · have hn' : n = m := by omega
                subst hn'
                go_wp2
                go_roundw
                case rel => exact ⟨n + 1, by omega, by go_num, hbw⟩
                case measure => simp [intOf]; omega
      · have hm' : ¬ (m : Int) < (p.length : Int) := by omega
        have hqo := Below.next hq3 hbw
        have HBF4 := Lib.hid (HBF3.out.keep hbw)
        have HBW4 := Lib.hid (HBW3.out.keep hbw)
        have y0 := (HBF4.out).cell 0
        have y1 := (HBF4.out).cell 1
        obtain ⟨z0, z1, z2, z3⟩ := (HBW4.out).cells4
        simp at y0 y1
        have HFH := Lib.hid (form_Holds _ _ l c th a b d wo (HA.out.keep hqo) (HC.out.keep hqo) (HK.out.keep hqo))
        have HCO := Lib.hid (fun W (hW : Below wo.heap.size wo W) => cubes_Holds _ _ (.slice P p.length k3) l c (lVals p) th a b d W (HA.out.keep (Below.next hqo hW)) (HC.out.keep (Below.next hqo hW))
          (IsLists.keep ⟨P, k3, p, rfl, rfl, HRP.out, HOP.out, s5, s6⟩ (Below.next hbw hW)) (HK.out.keep (Below.next hqo hW)))
        rw [HT.out.1, HT.out.2] at HCO
        generalize Venn.formHoldsV ⟨l, c⟩ ⟨th, a, b, d⟩ = VB at HFH HCO
        generalize Venn.formHoldsChk ⟨l, c⟩ ⟨th, a, b, d⟩ = EB at HFH HCO
        clear HS1 HS2 HS3 HT hbw
        by_cases hE : EB = 0
        · rw [errV_zero hE] at HFH HCO
          clear hE
          go_wp2_with fail
          refine (HFH.out).mono ?_
          rintro e w5 ⟨rfl, hb5⟩
          have hq5 := Below.next hqo hb5
          have HBF5 := Lib.hid (HBF4.out.keep hb5)
          have HBW5 := Lib.hid (HBW4.out.keep hb5)
          clear y0 y1 z0 z1 z2 z3
          have y0 := (HBF5.out).cell 0
          have y1 := (HBF5.out).cell 1
          obtain ⟨z0, z1, z2, z3⟩ := (HBW5.out).cells4
          simp at y0 y1
          go_wp2_with fail
          refine (HCO.out _ hb5).mono ?_
          rintro e w6 ⟨rfl, hb6⟩
          have hq6 := Below.next hq5 hb6
          clear y0 y1 z0 z1 z2 z3 hb5 hb6
          go_wp2_with fail
          first | go_region | (first | go_region_law (fail) | fail)
          all_goals
            go_wp2
            go_ret
            exact ⟨by simp, by (repeat' (first | (with_reducible exact Below.refl _ _) | (with_reducible assumption) | (with_reducible refine Below.next ?_ (by with_reducible assumption)) | (with_reducible refine Below.drew ?_) | (with_reducible refine Below.laid ?_ _) | (with_reducible refine Below.setCell ?_ ?_ _) | (with_reducible refine size_of ?_) | (with_reducible refine Nat.le_succ_of_le ?_) | go_size))⟩
        · rw [errV_ne hE] at HFH HCO
          clear hE
          go_wp2_with fail
          refine (HFH.out).mono ?_
          rintro e w5 ⟨rfl, hb5⟩
          have hq5 := Below.next hqo hb5
          have HBF5 := Lib.hid (HBF4.out.keep hb5)
          have HBW5 := Lib.hid (HBW4.out.keep hb5)
          clear y0 y1 z0 z1 z2 z3
          have y0 := (HBF5.out).cell 0
          have y1 := (HBF5.out).cell 1
          obtain ⟨z0, z1, z2, z3⟩ := (HBW5.out).cells4
          simp at y0 y1
          go_wp2_with fail
          refine (HCO.out _ hb5).mono ?_
          rintro e w6 ⟨rfl, hb6⟩
          have hq6 := Below.next hq5 hb6
          clear y0 y1 z0 z1 z2 z3 hb5 hb6
          go_wp2_with fail
          first | go_region | (first | go_region_law (fail) | fail)
          all_goals
            go_wp2
            go_ret
            exact ⟨by simp, by (repeat' (first | (with_reducible exact Below.refl _ _) | (with_reducible assumption) | (with_reducible refine Below.next ?_ (by with_reducible assumption)) | (with_reducible refine Below.drew ?_) | (with_reducible refine Below.laid ?_ _) | (with_reducible refine Below.setCell ?_ ?_ _) | (with_reducible refine size_of ?_) | (with_reducible refine Nat.le_succ_of_le ?_) | go_size))⟩
  · have HE := Lib.hid (errV_ne he)
    clear he
    go_wp2_with fail
    refine (HCF.out).mono ?_
    rintro e w3 ⟨hb3, v3, rfl, hI3⟩
    rw [HE.out]
    obtain ⟨P, k3, rfl⟩ := hI3.slice
    have hq3 := Below.next hq2 hb3
    clear hI3 HE
    generalize Venn.cubesErr ⟨l, c⟩ = EE
    go_wp2
    go_ret
    exact ⟨rfl, hq3⟩
end Go.Proofs.YtlpfbdejiifbpaaDoor
