/-
  THE WALK of the reference's Model.
-/
import Derived.Test.YtpkleioabinkkaaGreatDoorModelG
import Derived.Test.YtpkleioabinkkaaGreatDoorRefCubesG
import Derived.Test.YtpkleioabinkkaaGreatDoorRefG
import Derived.Test.YtpkleioabinkkaaGreatDoorRefW
import Derived.Test.YtpkleioabinkkaaGreatDoorRefRow
import Derived.Test.YtpkleioabinkkaaGreatDoorRefRows
import Derived.Deep.RegionLaw
namespace Go.Proofs.YtpkleioabinkkaaGreatDoor
open Go.RowKit

def farM (n : Int) : Int := if n < 0 then wrap64 (-n) else n
theorem ref_FarM (n : Int) (w : World) : Calls Tryz.prog 40 #[.int .i64 n] w (Pure (.int .i64 (farM n)) w) := by
  unfold farM
  by_cases h0 : n < 0
  · rw [if_pos h0]
    go_enter Tryz.func40, Tryz.ntmps40
    go_wp2
    go_ret
    exact ⟨rfl, rfl⟩
  · rw [if_neg h0]
    go_enter Tryz.func40, Tryz.ntmps40
    go_wp2
    go_ret
    exact ⟨rfl, rfl⟩
theorem refModel_chk {f : Venn.Form} {u : Int} : (Venn.formChk f ≠ 0 → Venn.modelErr f u = Venn.formChk f ∧ Venn.modelV f u = ⟨0, 0, 0, 0⟩) ∧ (Venn.formChk f = 0 → Venn.cubesO f.code = none → Venn.modelErr f u = 4 ∧ Venn.modelV f u = ⟨0, 0, 0, 0⟩) ∧
    (∀ L, Venn.formChk f = 0 → Venn.cubesO f.code = some L → Venn.modelErr f u = (if Venn.things u = true then (match Venn.firstM f.atoms u L with | some _ => 0 | none => 5) else 1) ∧ Venn.modelV f u = (if Venn.things u = true then (match Venn.firstM f.atoms u L with | some n => Venn.made n | none => ⟨0, 0, 0, 0⟩) else ⟨0, 0, 0, 0⟩)) := by
  refine ⟨fun h => ?_, fun h h2 => ?_, fun L h h2 => ?_⟩
  · have e : Venn.cubesErr f = Venn.formChk f := by unfold Venn.cubesErr; rw [if_neg h]
    unfold Venn.modelErr Venn.modelV
    rw [e, if_neg h, if_neg h]
    exact ⟨rfl, rfl⟩
  · have e : Venn.cubesErr f = 4 := by unfold Venn.cubesErr; rw [if_pos h, h2]
    unfold Venn.modelErr Venn.modelV
    rw [e, if_neg (by decide), if_neg (by decide)]
    exact ⟨rfl, rfl⟩
  · have e : Venn.cubesErr f = 0 := by unfold Venn.cubesErr; rw [if_pos h, h2]
    have e2 : Venn.cubesV f = L := by unfold Venn.cubesV; rw [if_pos h, h2]
    unfold Venn.modelErr Venn.modelV Venn.modelO
    rw [e, if_pos rfl, if_pos rfl, e2]
    exact ⟨rfl, rfl⟩
theorem Blk.set9m {w : World} {g : Nat} {t : TypeId} {y0 y1 y2 y3 y4 y5 y6 y7 y8 : Value} (h : Blk w g t #[y0, y1, y2, y3, y4, y5, y6, y7, y8]) (x0 x1 x2 x3 x4 x5 x6 x7 x8 : Value) : Blk (((((((((w.setCell ⟨g, 0, none⟩ x0).setCell ⟨g, 1, none⟩ x1).setCell ⟨g, 2, none⟩ x2).setCell ⟨g, 3, none⟩ x3).setCell ⟨g, 4, none⟩ x4).setCell ⟨g, 5, none⟩ x5).setCell ⟨g, 6, none⟩ x6).setCell ⟨g, 7, none⟩ x7).setCell ⟨g, 8, none⟩ x8) g t #[x0, x1, x2, x3, x4, x5, x6, x7, x8] := by
  have := (((((((((h.set_ 0 x0).set_ 1 x1).set_ 2 x2).set_ 3 x3).set_ 4 x4).set_ 5 x5).set_ 6 x6).set_ 7 x7).set_ 8 x8)
  simpa using this
theorem below_set9m {B : Nat} {a w : World} (h : Below B a w) {g : Nat} (hg : B ≤ g) (x0 x1 x2 x3 x4 x5 x6 x7 x8 : Value) : Below B a (((((((((w.setCell ⟨g, 0, none⟩ x0).setCell ⟨g, 1, none⟩ x1).setCell ⟨g, 2, none⟩ x2).setCell ⟨g, 3, none⟩ x3).setCell ⟨g, 4, none⟩ x4).setCell ⟨g, 5, none⟩ x5).setCell ⟨g, 6, none⟩ x6).setCell ⟨g, 7, none⟩ x7).setCell ⟨g, 8, none⟩ x8) := (((((((((h.setCell (p := ⟨g, 0, none⟩) hg x0).setCell (p := ⟨g, 1, none⟩) hg x1).setCell (p := ⟨g, 2, none⟩) hg x2).setCell (p := ⟨g, 3, none⟩) hg x3).setCell (p := ⟨g, 4, none⟩) hg x4).setCell (p := ⟨g, 5, none⟩) hg x5).setCell (p := ⟨g, 6, none⟩) hg x6).setCell (p := ⟨g, 7, none⟩) hg x7).setCell (p := ⟨g, 8, none⟩) hg x8)
theorem Blk.cells9m {w : World} {g : Nat} {t : TypeId} {x0 x1 x2 x3 x4 x5 x6 x7 x8 : Value} (h : Blk w g t #[x0, x1, x2, x3, x4, x5, x6, x7, x8]) : (w.cell? ⟨g, 0, none⟩ = some x0 ∧ w.cell? ⟨g, 1, none⟩ = some x1 ∧ w.cell? ⟨g, 2, none⟩ = some x2 ∧ w.cell? ⟨g, 3, none⟩ = some x3 ∧ w.cell? ⟨g, 4, none⟩ = some x4 ∧ w.cell? ⟨g, 5, none⟩ = some x5 ∧ w.cell? ⟨g, 6, none⟩ = some x6 ∧ w.cell? ⟨g, 7, none⟩ = some x7 ∧ w.cell? ⟨g, 8, none⟩ = some x8) ∧ w.frozen? ⟨g, 0, none⟩ = false ∧ w.frozen? ⟨g, 1, none⟩ = false ∧ w.frozen? ⟨g, 2, none⟩ = false ∧ w.frozen? ⟨g, 3, none⟩ = false ∧ w.frozen? ⟨g, 4, none⟩ = false ∧ w.frozen? ⟨g, 5, none⟩ = false ∧ w.frozen? ⟨g, 6, none⟩ = false ∧ w.frozen? ⟨g, 7, none⟩ = false ∧ w.frozen? ⟨g, 8, none⟩ = false :=
  ⟨⟨h.cell 0, h.cell 1, h.cell 2, h.cell 3, h.cell 4, h.cell 5, h.cell 6, h.cell 7, h.cell 8⟩, h.frozen 0, h.frozen 1, h.frozen 2, h.frozen 3, h.frozen 4, h.frozen 5, h.frozen 6, h.frozen 7, h.frozen 8⟩
theorem own_hb {w W w5 : World} {b : Nat} {e : TypeId} {k : Nat} {v : Value} {n : Nat} {xs : List Value} (h : w.ownsRow b e k v n xs) (hW : Below w.heap.size w W) (h5 : Below W.heap.size W w5) : w5.ownsRow b e k v n xs := own_below h (Below.next hW h5)
theorem ord_new {w W w5 : World} (hW : Below w.heap.size w W) (h5 : Below W.heap.size W w5) (o : Obj) : Below w.heap.size w (w5.alloc o) := (Below.next hW h5).alloc (Below.next hW h5).size o
theorem allC_standsM {u : Int} (h : Venn.things u = true) {x : List Int} (hx : x ∈ Venn.allC u) : Venn.countsChk x = 0 := by
  obtain ⟨a0, a1, a2, a3, a4, a5, a6, a7, rfl, b0, b1, b2, b3, b4, b5, b6, b7, hs⟩ := Venn.of_allC h hx
  simp only [Venn.things, Bool.and_eq_true, decide_eq_true_eq] at h
  have hall : [a0, a1, a2, a3, a4, a5, a6, a7].all Venn.things = true := by simp [Venn.things]; omega
  have hsum : ¬ 6 < [a0, a1, a2, a3, a4, a5, a6, a7].sum := by simp; omega
  rw [Venn.countsChk, if_pos hall, if_neg hsum]
theorem firstFit_drop (u : Int) (rows : List (List Int)) : Venn.firstFit u rows = ((Venn.allC u).drop 0).find? (Venn.rowsSo rows) := by rw [List.drop_zero]; rfl
theorem find_drop {l : List (List Int)} {k : Nat} {x : List Int} (p : List Int → Bool) (h : l[k]? = some x) : (l.drop k).find? p = if p x = true then some x else (l.drop (k + 1)).find? p := by
  obtain ⟨hk, rfl⟩ := List.getElem?_eq_some_iff.1 h
  rw [List.drop_eq_getElem_cons hk, List.find?_cons]
  cases p l[k] <;> rfl
def RModelPost (x : Venn.World) (er : Int) (w : World) (e : Ending) (w' : World) : Prop := e = .returned (.tuple #[worldM x, .int .i64 er]) ∧ Below w.heap.size w w'
set_option maxHeartbeats 8000000 in
set_option maxRecDepth 100000 in
theorem ref_Model (sa sc : Value) (l : List Venn.Atom) (c : List Int) (u : Int) (w : World) (ha : IsAtoms w sa l) (hc : IsInts w sc c) :
    Calls Tryz.prog 11 #[.agg #[sa, sc], .int .i64 u] w (RModelPost (Venn.modelV ⟨l, c⟩ u) (Venn.modelErr ⟨l, c⟩ u) w) := by
  have HA := Lib.hid ha
  have HC := Lib.hid hc
  obtain ⟨A, cA, rfl, _⟩ := ha
  obtain ⟨C, cC, rfl, _⟩ := hc
  have HRF := Lib.hid (fun W (hW : Below w.heap.size w W) => ref_Form _ _ l c W (HA.out.keep hW) (HC.out.keep hW))
  have HB0 := Lib.hid ((Blk.new w 25 #[.slice A l.length cA, .slice C c.length cC]).alloc (.cells #[.int .i64 0, .int .i64 0, .int .i64 0, .int .i64 0] 28))
  have HR0 := Lib.hid (Blk.newAt (w := w.alloc (.cells #[.slice A l.length cA, .slice C c.length cC] 25)) (g := w.heap.size + 1) (by simp) 28 #[.int .i64 0, .int .i64 0, .int .i64 0, .int .i64 0])
  have hb0 : Below w.heap.size w ((w.alloc (.cells #[.slice A l.length cA, .slice C c.length cC] 25)).alloc (.cells #[.int .i64 0, .int .i64 0, .int .i64 0, .int .i64 0] 28)) := by (repeat' (first | (with_reducible exact Below.refl _ _) | (with_reducible assumption) | (with_reducible refine Below.next ?_ (by with_reducible assumption)) | (with_reducible refine Below.drew ?_) | (with_reducible refine Below.laid ?_ _) | (with_reducible refine Below.setCell ?_ ?_ _) | (with_reducible refine size_of ?_) | (with_reducible refine Nat.le_succ_of_le ?_) | go_size))
  have b0 := (HB0.out).cell 0
  have b1 := (HB0.out).cell 1
  simp at b0 b1
  obtain ⟨HC1, HC2, HC3⟩ := @refModel_chk ⟨l, c⟩ u
  have HC1 := Lib.hid HC1
  have HC2 := Lib.hid HC2
  have HC3 := Lib.hid HC3
  generalize Venn.modelErr ⟨l, c⟩ u = ME at HC1 HC2 HC3 ⊢
  generalize Venn.modelV ⟨l, c⟩ u = MV at HC1 HC2 HC3 ⊢
  simp only at HC1 HC2 HC3
  by_cases hz : Venn.formChk ⟨l, c⟩ = 0
  · rw [hz] at HRF
    obtain ⟨p1, p2, p3, h20, p5, p6, p7⟩ := Venn.formChk_parts hz
    have hl6 : l.length ≤ 6 := p2
    have HAT := Lib.hid (Venn.chk_atoms hz)
    simp only at HAT
    have HRC := Lib.hid (fun W (hW : Below w.heap.size w W) => ref_Cubes (.slice A l.length cA) _ (l.length : Int) c W (HC.out.keep hW) h20 p6 p7)
    clear p1 p2 p3 h20 p5 p6 p7
    cases hJ : Venn.cubesO c with
    | none =>
      have HE := Lib.hid (HC2.out hz hJ)
      rw [hJ] at HRC
      clear hz hJ HC1 HC2 HC3
      go_enter Tryz.func11, Tryz.ntmps11
      go_wp2_with fail
      refine (HRF.out _ hb0).mono ?_
      rintro e w1 ⟨rfl, hb1⟩
      have hq1 := Below.next hb0 hb1
      clear b0 b1
      have b0 := ((HB0.out).keep hb1).cell 0
      have b1 := ((HB0.out).keep hb1).cell 1
      simp at b0 b1
      go_wp2_with fail
      refine (HRC.out _ hq1).mono ?_
      rintro e w2 ⟨hb2, ⟨_, rfl⟩ | ⟨_, _, h, _⟩⟩
      · have hq2 := Below.next hq1 hb2
        have BR := ((HR0.out).keep hb1).keep hb2
        clear b0 b1
        obtain ⟨r0, r1, r2, r3⟩ := (BR).cells4
        have s0 := (BR).frozen 0
        have s1 := (BR).frozen 1
        have s2 := (BR).frozen 2
        have s3 := (BR).frozen 3
        have GL := below_set4m (hq2) (show w.heap.size ≤ w.heap.size + 1 by omega) (.int .i64 0) (.int .i64 0) (.int .i64 0) (.int .i64 0)
        have GS := (BR).set4m (.int .i64 0) (.int .i64 0) (.int .i64 0) (.int .i64 0)
        go_wp2
        clear r0 r1 r2 r3 s0 s1 s2 s3
        revert GL GS
        generalize World.setCell _ _ _ = Wf
        intro GL GS
        obtain ⟨e0, e1, e2, e3⟩ := GS.cells4
        refine bodyPost_ret (v := .tuple #[.agg #[.int .i64 0, .int .i64 0, .int .i64 0, .int .i64 0], .int .i64 4]) (by simp [results, Tryz.results11, go_sem, e0, e1, e2, e3]) rfl ⟨by rw [HE.out.1, HE.out.2]; rfl, GL⟩
      · cases h
    | some L =>
      have HE := Lib.hid (HC3.out L hz hJ)
      have HIN := Lib.hid (Venn.cubes_in hz hJ)
      have HL6 := Lib.hid (fun c hc => ((Venn.cubesO_ok hz hJ).1.1 c hc).2.2)
      simp only at HIN
      rw [hJ] at HRC
      clear hz hJ HC1 HC2 HC3
      by_cases hu : Venn.things u = true
      · have HU := Lib.hid hu
        have HE := Lib.hid (show ME = (match Venn.firstM l u L with | some _ => 0 | none => 5) ∧ MV = (match Venn.firstM l u L with | some n => Venn.made n | none => ⟨0, 0, 0, 0⟩) by have h := HE.out; rw [if_pos hu, if_pos hu] at h; exact h)
        have hu6 : 0 ≤ u ∧ u ≤ 6 := by simpa only [Venn.things, Bool.and_eq_true, decide_eq_true_eq] using hu
        have g1 : ¬ u < 0 := by omega
        have g2 : ¬ 6 < u := by omega
        clear hu
        go_enter Tryz.func11, Tryz.ntmps11
        go_wp2_with fail
        refine (HRF.out _ hb0).mono ?_
        rintro e w1 ⟨rfl, hb1⟩
        have hq1 := Below.next hb0 hb1
        clear b0 b1
        have b0 := ((HB0.out).keep hb1).cell 0
        have b1 := ((HB0.out).keep hb1).cell 1
        simp at b0 b1
        go_wp2_with fail
        refine (HRC.out _ hq1).mono ?_
        rintro e w2 ⟨hb2, ⟨h, _⟩ | ⟨v2, L', h, rfl, hI2⟩⟩
        · cases h
        injection h with h
        subst h
        have hq2 := Below.next hq1 hb2
        have HB2 := Lib.hid (((HB0.out).keep hb1).keep hb2)
        have HR2 := Lib.hid (((HR0.out).keep hb1).keep hb2)
        obtain ⟨P, k1, p, rfl, rfl, hrp, hop, s5, s6⟩ := hI2
        have hn1 : p.length ≤ 9223372036854775807 := by unfold maxLen at s6; omega
        have HRP := Lib.hid hrp
        have HOP := Lib.hid hop
        clear b0 b1 hrp hop s5 s6 HB0 HR0 hb1 hb2
        go_wp2_with fail
        refine (ref_All u _ hu6).mono ?_
        rintro e w3 ⟨v3, rfl, hb3, hown3⟩
        have hq3 := Below.next hq2 hb3
        have HB3 := Lib.hid (HB2.out.keep hb3)
        have HR3 := Lib.hid (HR2.out.keep hb3)
        obtain ⟨EV, kE, rfl⟩ := ownsRow_slice hown3
        have HOE := Lib.hid hown3
        have hel : (Venn.allC u).length ≤ 90000 := allC_len2 hu6
        obtain ⟨NE, hNE⟩ : ∃ NE, NE = (Venn.allC u).length := ⟨_, rfl⟩
        rw [← hNE] at HOE hel ⊢
        have HNE := Lib.hid hNE
        have HRP3 := Lib.hid (HRP.out.keep hb3)
        have HOP3 := Lib.hid (HOP.out.keep hb3)
        have HF0 := Lib.hid (show Venn.firstM l u (lVals p) = Venn.firstM l u ((lVals p).drop 0) by rw [List.drop_zero])
        generalize Venn.firstM l u (lVals p) = R at HF0 HE
        clear hown3 hNE HRP HOP HB2 HR2 hb3
        go_wp2
        go_loopw [9] (fun i wr => ∃ k : Nat, k ≤ p.length ∧ i = .int .i64 k ∧ Below w3.heap.size w3 wr ∧ R = Venn.firstM l u ((lVals p).drop k)) (fun i _ => p.length - (intOf i).toNat)
        case atStart => exact ⟨0, Nat.zero_le _, rfl, Below.refl _ _, HF0.out⟩
        case round =>
          clear HF0
          obtain ⟨k, hk, rfl, hbw, hR⟩ := hrel
          obtain ⟨wo, rfl⟩ : ∃ wo : World, wo = wr := ⟨_, rfl⟩
          have hq := Below.next hq3 hbw
          by_cases hlt : k < p.length
          · obtain ⟨⟨x, xv⟩, hx⟩ : ∃ x, p[k]? = some x := ⟨p[k], List.getElem?_eq_getElem hlt⟩
            obtain ⟨ad, rfl, hc0⟩ := HRP3.out k xv (by unfold lCells; rw [List.getElem?_map, hx]; rfl)
            obtain ⟨X, cX, hxv, hrx, hx1, hx2⟩ := HOP3.out _ (List.mem_of_getElem? hx)
            have hxm := HIN.out _ (lVals_mem (List.mem_of_getElem? hx))
            have hx6 := HL6.out _ (lVals_mem (List.mem_of_getElem? hx))
            rw [lVals_at hx, Venn.firstM] at hR
            simp only at hxv hrx hx1 hxm hx6 hR
            subst hxv
            have HC0 := Lib.hid hc0
            have HRX := Lib.hid hrx
            have HXM := Lib.hid hxm
            have HR := Lib.hid hR
            have hk1 : (k : Int) < (p.length : Int) := by omega
            have hk0 : (0 : Int) ≤ (k : Int) := by omega
            clear hx hc0 hrx hx1 hx2 hxm hR
            go_wp2
            go_loopw [10, 11] (fun v i wr => ∃ j : Nat, j ≤ x.length ∧ i = .int .i64 j ∧ wr.ownsRow wo.heap.size 79 9 v j (flat9 (Venn.linesV l (x.take j))) ∧ Below wo.heap.size wo wr) (fun _ i _ => x.length - (intOf i).toNat)
            case atStart => exact ⟨0, Nat.zero_le _, rfl, World.ownsRow_nil _ _ _ _, Below.refl _ _⟩
            case round =>
              obtain ⟨j, hj, rfl, hown, hbw1⟩ := hrel
              obtain ⟨w4, rfl⟩ : ∃ w4 : World, w4 = wr := ⟨_, rfl⟩
              obtain ⟨V0, k0, rfl⟩ := ownsRow_slice hown
              have HO := Lib.hid hown
              have hbw3 := Below.next hbw hbw1
              have hq4 := Below.next hq3 hbw3
              have hc := cell_keep hbw3 HC0.out
              clear hown
              by_cases hlj : j < x.length
              · obtain ⟨xd, rfl, hd0⟩ := HRX.out.int hlj
                have hd := cell_keep hbw3 hd0
                have hm := HXM.out _ (List.getElem_mem hlj)
                have HLL := Lib.hid (Venn.linesV_step l x j hlj)
                generalize x[j] = m at hd hm HLL
                obtain ⟨N, hN⟩ : ∃ N : Nat, (N : Int) = Venn.absI m - 1 := ⟨(Venn.absI m - 1).toNat, by unfold Venn.absI; split <;> omega⟩
                have hNl : N < l.length := by unfold Venn.absI at hN; split at hN <;> omega
                have hfar : farM m = (N : Int) + 1 := by
                  unfold Venn.absI at hN
                  unfold farM
                  rw [IntWalk.wrap64_in (-m) (by omega)]
                  split at hN <;> split <;> omega
                obtain ⟨⟨aw, aS, aT, an⟩, hx⟩ : ∃ x, l[N]? = some x := ⟨l[N], List.getElem?_eq_getElem hNl⟩
                obtain ⟨A', cA', eA, hra, _⟩ := HA.out
                obtain ⟨bd, sv, tv, eA', g0, g1', g2', g3, hs, ht⟩ := hra N _ hx
                injection eA with eA1 _ eA2
                subst eA1 eA2
                have hrow : Venn.rowOf l m = Venn.rowL ⟨aw, aS, aT, an⟩ (decide (0 < m)) := by
                  unfold Venn.rowOf
                  rw [show (Venn.absI m - 1).toNat = N by omega, hx]
                rw [hrow] at HLL
                have HRR := Lib.hid (fun W (hW : Below w.heap.size w W) => ref_Row aw an sv tv aS aT (decide (0 < m)) W (hs.keep hW) (ht.keep hW) (HAT.out _ (List.mem_of_getElem? hx)))
                obtain ⟨r0, r1, r2, r3, r4, r5, r6, r7, r8, hv, hl⟩ := row_open ⟨aw, aS, aT, an⟩ (decide (0 < m))
                rw [hl] at HLL
                rw [hv] at HRR
                have g0 := cell_keep hq4 g0
                have g1' := cell_keep hq4 g1'
                have g2' := cell_keep hq4 g2'
                have g3 := cell_keep hq4 g3
                obtain ⟨S1, cS1, rfl, _⟩ := hs
                obtain ⟨T1, cT1, rfl, _⟩ := ht
                have HFAR := Lib.hid (fun W => ref_FarM m W)
                rw [hfar] at HFAR
                have b0 := ((HB3.out).keep hbw3).cell 0
                rw [eA'] at b0
                have hbA : Below w4.heap.size w4 (w4.alloc (.cells #[.int .i64 0, .int .i64 0, .int .i64 0, .int .i64 0, .int .i64 0, .int .i64 0, .int .i64 0, .int .i64 0, .int .i64 0] 79)) := by (repeat' (first | (with_reducible exact Below.refl _ _) | (with_reducible assumption) | (with_reducible refine Below.next ?_ (by with_reducible assumption)) | (with_reducible refine Below.drew ?_) | (with_reducible refine Below.laid ?_ _) | (with_reducible refine Below.setCell ?_ ?_ _) | (with_reducible refine size_of ?_) | (with_reducible refine Nat.le_succ_of_le ?_) | go_size))
                simp at g0 g1' g2' g3 b0
                have k0' := cell_keep hbA g0
                have k1' := cell_keep hbA g1'
                have k2' := cell_keep hbA g2'
                have k3' := cell_keep hbA g3
                have k4' := cell_keep hbA b0
                clear hbA
                have hj1 : (j : Int) < (x.length : Int) := by omega
                have hj0 : (0 : Int) ≤ (j : Int) := by omega
                have e1 : IntKind.i64.wrap (N : Int) = (N : Int) := IntWalk.i64_in _ (by omega)
                have e2 : IntKind.i64.wrap ((N : Int) + 1 - 1) = (N : Int) := by rw [show (N : Int) + 1 - 1 = N by omega]; exact e1
                have e3 : (N : Int) < (l.length : Int) := by omega
                have e4 : (0 : Int) ≤ (N : Int) := by omega
                clear hd0 hm hN hfar hx hra hrow hv hl eA'
                go_upto_region 18 with (fail)
                go_cut [13] (fun s wx => ∃ g, s = .pointer (some ⟨g, 0, none⟩) ∧ Below w4.heap.size w4 wx ∧ Blk wx g 79 #[.int .i64 r0, .int .i64 r1, .int .i64 r2, .int .i64 r3, .int .i64 r4, .int .i64 r5, .int .i64 r6, .int .i64 r7, .int .i64 r8])
                case first =>
                  go_region_law (first
                    | (go_simp; go_at_call 40; refine (HFAR.out _).mono ?_; rintro e w5 ⟨rfl, rfl⟩)
                    | (go_simp; go_at_call 39; refine (HRR.out _ (by (repeat' (first | (with_reducible exact Below.refl _ _) | (with_reducible assumption) | (with_reducible refine Below.next ?_ (by with_reducible assumption)) | (with_reducible refine Below.drew ?_) | (with_reducible refine Below.laid ?_ _) | (with_reducible refine Below.setCell ?_ ?_ _) | (with_reducible refine size_of ?_) | (with_reducible refine Nat.le_succ_of_le ?_) | go_size)))).mono ?_; rintro e w5 ⟨rfl, hb5⟩; (first | (with_reducible have hz5 := ((Blk.new _ 79 #[.int .i64 0, .int .i64 0, .int .i64 0, .int .i64 0, .int .i64 0, .int .i64 0, .int .i64 0, .int .i64 0, .int .i64 0]).drew.keep hb5).cells9m; obtain ⟨⟨qa0, qa1, qa2, qa3, qa4, qa5, qa6, qa7, qa8⟩, qf0, qf1, qf2, qf3, qf4, qf5, qf6, qf7, qf8⟩ := hz5) | skip)))
                  all_goals
                    clear g0 g1' g2' g3 k0' k1' k2' k3' k4' hd b0 hc
                    go_wp2
                    go_meet
                    case rel =>
                      first
                        | with_reducible exact ⟨_, rfl, ord_new (Below.refl _ _).drew hb5 _, Blk.new _ _ _⟩
                        | with_reducible exact ⟨_, rfl, below_set9m (Below.next ((Below.refl _ _).alloc (Nat.le_refl _) _).drew hb5) (Nat.le_refl _) (.int .i64 r0) (.int .i64 r1) (.int .i64 r2) (.int .i64 r3) (.int .i64 r4) (.int .i64 r5) (.int .i64 r6) (.int .i64 r7) (.int .i64 r8), ((Blk.new _ _ _).drew.keep hb5).set9m (.int .i64 r0) (.int .i64 r1) (.int .i64 r2) (.int .i64 r3) (.int .i64 r4) (.int .i64 r5) (.int .i64 r6) (.int .i64 r7) (.int .i64 r8)⟩
                case rest =>
                  obtain ⟨g, rfl, hbx, hbk⟩ := hcut
                  obtain ⟨w6, rfl⟩ : ∃ w6 : World, w6 = wc := ⟨_, rfl⟩
                  have HO2 := Lib.hid (own_below HO.out hbx)
                  have hbo := Below.next hbw1 hbx
                  obtain ⟨⟨qa0, qa1, qa2, qa3, qa4, qa5, qa6, qa7, qa8⟩, _⟩ := hbk.cells9m
                  clear g0 g1' g2' g3 k0' k1' k2' k3' k4' hd b0 hc hbk hbx
                  have hb7 : Below w6.heap.size w6 (w6.alloc (.cells #[.int .i64 r0, .int .i64 r1, .int .i64 r2, .int .i64 r3, .int .i64 r4, .int .i64 r5, .int .i64 r6, .int .i64 r7, .int .i64 r8] 79)) := by (repeat' (first | (with_reducible exact Below.refl _ _) | (with_reducible assumption) | (with_reducible refine Below.next ?_ (by with_reducible assumption)) | (with_reducible refine Below.drew ?_) | (with_reducible refine Below.laid ?_ _) | (with_reducible refine Below.setCell ?_ ?_ _) | (with_reducible refine size_of ?_) | (with_reducible refine Nat.le_succ_of_le ?_) | go_size))
                  have hbo7 := Below.next hbo hb7
                  have hbase : wo.heap.size ≤ (w6.alloc (.cells #[.int .i64 r0, .int .i64 r1, .int .i64 r2, .int .i64 r3, .int .i64 r4, .int .i64 r5, .int .i64 r6, .int .i64 r7, .int .i64 r8] 79)).heap.size := hbo7.size
                  have hrd := rd_row w6 79 r0 r1 r2 r3 r4 r5 r6 r7 r8
                  have HO3 := Lib.hid (own_below HO2.out hb7)
                  go_wp2_with (at_builtin; refine wpList_appRows _ rfl _ _ rfl wo.heap.size _ j _ rfl HO3.out (some ⟨w6.heap.size, 0, none⟩) 1 [[r0, r1, r2, r3, r4, r5, r6, r7, r8]] rfl hrd (by simp) (by simp; omega) hbase ?_)
                  intro v' w8 hown8 hg8
                  have hbel := hbo7.grown hg8 hbase (fun b e => (HO3.out.lt b e).1)
                  have HO8 := Lib.hid (show w8.ownsRow wo.heap.size 79 9 v' (j + 1) (flat9 (Venn.linesV l (x.take (j + 1)))) by rw [HLL.out, flat9_app]; exact hown8)
                  clear hown8 hg8 hrd hb7 hbase
                  go_wp2
                  go_roundw
                  case rel => exact ⟨j + 1, by omega, by go_num, HO8.out, hbel⟩
                  case measure => simp [intOf]; omega
              · have hj' : j = x.length := by omega
                have hj1 : ¬ (j : Int) < (x.length : Int) := by omega
                have HIR := Lib.hid (show IsRows w4 (.slice V0 j k0) (Venn.linesV l x) by
                  have := HO.out
                  rw [hj', List.take_length] at this
                  rw [hj']
                  exact IsRows.of_own this (rows_nine HAT.out HXM.out))
                have HFT := Lib.hid (fun n0 n1 n2 n3 n4 n5 n6 n7 W (hW : Below w4.heap.size w4 W) hc => ref_Fits (.slice V0 j k0) (Venn.linesV l x) n0 n1 n2 n3 n4 n5 n6 n7 W (HIR.out.keep hW) (lines_ok HAT.out HXM.out) hc)
                have HF0 := Lib.hid (firstFit_drop u (Venn.linesV l x))
                have HR := Lib.hid (show R = (match Venn.firstFit u (Venn.linesV l x) with | some n => some n | none => Venn.firstM l u ((lVals p).drop (k + 1))) from HR.out)
                generalize Venn.firstFit u (Venn.linesV l x) = FF at HF0 HR
                generalize Venn.linesV l x = LX at HF0 HFT
                clear hj' HO HIR
                go_wp2
                clear hc
                go_loopw [14] (fun i wr => ∃ n : Nat, n ≤ NE ∧ i = .int .i64 n ∧ Below w4.heap.size w4 wr ∧ FF = ((Venn.allC u).drop n).find? (Venn.rowsSo LX)) (fun i _ => NE - (intOf i).toNat)
                case atStart => exact ⟨0, Nat.zero_le _, rfl, Below.refl _ _, HF0.out⟩
                case round =>
                  clear HF0
                  obtain ⟨n, hn, rfl, hbw5, hF⟩ := hrel
                  obtain ⟨w7, rfl⟩ : ∃ w7 : World, w7 = wr := ⟨_, rfl⟩
                  have hb37 := Below.next hbw3 hbw5
                  have hq7 := Below.next hq4 hbw5
                  by_cases hln : n < NE
                  · have hln' : n < (Venn.allC u).length := by rw [← HNE.out]; exact hln
                    obtain ⟨a0, a1, a2, a3, a4, a5, a6, a7, hxe, hp, hs⟩ := allC_parts HU.out (List.getElem_mem hln')
                    have hx : (Venn.allC u)[n]? = some [a0, a1, a2, a3, a4, a5, a6, a7] := by rw [List.getElem?_eq_getElem hln', hxe]
                    obtain ⟨g, rfl, d0, d1, d2, d3, d4, d5, d6, d7⟩ := own_eight HOE.out (fun r hr => ((Venn.mem_allC HU.out r).1 hr).1) hx
                    replace d0 := cell_keep hb37 d0
                    replace d1 := cell_keep hb37 d1
                    replace d2 := cell_keep hb37 d2
                    replace d3 := cell_keep hb37 d3
                    replace d4 := cell_keep hb37 d4
                    replace d5 := cell_keep hb37 d5
                    replace d6 := cell_keep hb37 d6
                    replace d7 := cell_keep hb37 d7
                    have HMD := Lib.hid (fun W => ref_Made a0 a1 a2 a3 a4 a5 a6 a7 W hp (by rw [hs]; exact hu6.2))
                    have hcc := allC_standsM HU.out (hxe ▸ List.getElem_mem hln')
                    have HFT := Lib.hid (fun W hW => HFT.out a0 a1 a2 a3 a4 a5 a6 a7 W hW hcc)
                    rw [find_drop (Venn.rowsSo LX) hx] at hF
                    have hn1 : (n : Int) < (NE : Int) := by omega
                    have hn0 : (0 : Int) ≤ (n : Int) := by omega
                    clear hx hxe hp hs hln' hcc
                    cases hso : Venn.rowsSo LX [a0, a1, a2, a3, a4, a5, a6, a7] with
                    | false =>
                      have HF := Lib.hid (show FF = ((Venn.allC u).drop (n + 1)).find? (Venn.rowsSo LX) by rw [hF, hso]; rfl)
                      rw [hso] at HFT
                      clear hF hso
                      go_wp2_with fail
                      refine (HFT.out _ hbw5).mono ?_
                      rintro e w8 ⟨rfl, hb8⟩
                      have hb48 := Below.next hbw5 hb8
                      clear d0 d1 d2 d3 d4 d5 d6 d7
                      go_wp2
                      go_roundw
                      case rel => exact ⟨n + 1, by omega, by go_num, hb48, HF.out⟩
                      case measure => simp [intOf]; omega
                    | true =>
                      have HF := Lib.hid (show FF = some [a0, a1, a2, a3, a4, a5, a6, a7] by rw [hF, hso, if_pos rfl])
                      have HRN := Lib.hid (show R = some [a0, a1, a2, a3, a4, a5, a6, a7] by rw [HR.out, HF.out])
                      have HME := Lib.hid (show ME = 0 by rw [HE.out.1, HRN.out])
                      have HMV := Lib.hid (show MV = Venn.made [a0, a1, a2, a3, a4, a5, a6, a7] by rw [HE.out.2, HRN.out])
                      rw [hso] at HFT
                      generalize Venn.made [a0, a1, a2, a3, a4, a5, a6, a7] = MD at HMD HMV
                      obtain ⟨mt, ma, mb, mc⟩ := MD
                      simp only at HMD
                      clear hF hso
                      go_wp2_with fail
                      refine (HFT.out _ hbw5).mono ?_
                      rintro e w8 ⟨rfl, hb8⟩
                      replace d0 := cell_keep hb8 d0
                      replace d1 := cell_keep hb8 d1
                      replace d2 := cell_keep hb8 d2
                      replace d3 := cell_keep hb8 d3
                      replace d4 := cell_keep hb8 d4
                      replace d5 := cell_keep hb8 d5
                      replace d6 := cell_keep hb8 d6
                      replace d7 := cell_keep hb8 d7
                      go_wp2_with fail
                      refine (HMD.out _).mono ?_
                      rintro e w9 ⟨rfl, hb9⟩
                      have hb39 := Below.next hb37 (Below.next hb8 hb9)
                      have hq9 := Below.next hq3 hb39
                      have BR := HR3.out.keep hb39
                      clear d0 d1 d2 d3 d4 d5 d6 d7
                      obtain ⟨r0, r1, r2, r3⟩ := (BR).cells4
                      have s0 := (BR).frozen 0
                      have s1 := (BR).frozen 1
                      have s2 := (BR).frozen 2
                      have s3 := (BR).frozen 3
                      have GL := below_set4m (hq9) (show w.heap.size ≤ w.heap.size + 1 by omega) (.int .i64 mt) (.int .i64 ma) (.int .i64 mb) (.int .i64 mc)
                      have GS := (BR).set4m (.int .i64 mt) (.int .i64 ma) (.int .i64 mb) (.int .i64 mc)
                      go_wp2
                      clear r0 r1 r2 r3 s0 s1 s2 s3
                      revert GL GS
                      generalize World.setCell _ _ _ = Wf
                      intro GL GS
                      obtain ⟨e0, e1, e2, e3⟩ := GS.cells4
                      refine bodyPost_ret (v := .tuple #[.agg #[.int .i64 mt, .int .i64 ma, .int .i64 mb, .int .i64 mc], .int .i64 0]) (by simp [results, Tryz.results11, go_sem, e0, e1, e2, e3]) rfl ⟨by rw [HME.out, HMV.out]; rfl, GL⟩
                  · have hn' : (Venn.allC u).length ≤ n := by have := HNE.out; omega
                    have hn1 : ¬ (n : Int) < (NE : Int) := by omega
                    have HF := Lib.hid (show FF = none by rw [hF, List.drop_eq_nil_of_le hn']; rfl)
                    have HRR2 := Lib.hid (show R = Venn.firstM l u ((lVals p).drop (k + 1)) by rw [HR.out, HF.out])
                    clear hn' hF
                    go_wp2
                    go_roundw
                    case rel => exact ⟨k + 1, by omega, by go_num, hb37, HRR2.out⟩
                    case measure => simp [intOf]; omega
          · have hk' : k = p.length := by omega
            have hk1 : ¬ (k : Int) < (p.length : Int) := by omega
            have HRN := Lib.hid (show R = none by rw [hR, hk', List.drop_eq_nil_of_le (by rw [lVals_len]; exact Nat.le_refl _)]; rfl)
            have HME := Lib.hid (show ME = 5 by rw [HE.out.1, HRN.out])
            have HMV := Lib.hid (show MV = ⟨0, 0, 0, 0⟩ by rw [HE.out.2, HRN.out])
            have BR := HR3.out.keep hbw
            clear hk' hR
            obtain ⟨r0, r1, r2, r3⟩ := (BR).cells4
            have s0 := (BR).frozen 0
            have s1 := (BR).frozen 1
            have s2 := (BR).frozen 2
            have s3 := (BR).frozen 3
            have GL := below_set4m (hq) (show w.heap.size ≤ w.heap.size + 1 by omega) (.int .i64 0) (.int .i64 0) (.int .i64 0) (.int .i64 0)
            have GS := (BR).set4m (.int .i64 0) (.int .i64 0) (.int .i64 0) (.int .i64 0)
            go_wp2
            clear r0 r1 r2 r3 s0 s1 s2 s3
            revert GL GS
            generalize World.setCell _ _ _ = Wf
            intro GL GS
            obtain ⟨e0, e1, e2, e3⟩ := GS.cells4
            refine bodyPost_ret (v := .tuple #[.agg #[.int .i64 0, .int .i64 0, .int .i64 0, .int .i64 0], .int .i64 5]) (by simp [results, Tryz.results11, go_sem, e0, e1, e2, e3]) rfl ⟨by rw [HME.out, HMV.out]; rfl, GL⟩
      · have HE := Lib.hid (show ME = 1 ∧ MV = ⟨0, 0, 0, 0⟩ by have h := HE.out; rw [if_neg hu, if_neg hu] at h; exact h)
        have hu6 : ¬ (0 ≤ u ∧ u ≤ 6) := by simpa only [Venn.things, Bool.and_eq_true, decide_eq_true_eq] using hu
        have hg : (u < 0) ∨ (¬ u < 0 ∧ 6 < u) := by omega
        clear hu hu6
        rcases hg with g1 | ⟨g1, g2⟩
        all_goals
          go_enter Tryz.func11, Tryz.ntmps11
          go_wp2_with fail
          refine (HRF.out _ hb0).mono ?_
          rintro e w1 ⟨rfl, hb1⟩
          have hq1 := Below.next hb0 hb1
          clear b0 b1
          have b0 := ((HB0.out).keep hb1).cell 0
          have b1 := ((HB0.out).keep hb1).cell 1
          simp at b0 b1
          go_wp2_with fail
          refine (HRC.out _ hq1).mono ?_
          rintro e w2 ⟨hb2, ⟨h, _⟩ | ⟨v2, L', h, rfl, hI2⟩⟩
          · cases h
          obtain ⟨P, k1, rfl⟩ := hI2.sliceM
          have hq2 := Below.next hq1 hb2
          have BR := ((HR0.out).keep hb1).keep hb2
          clear b0 b1 hI2
          obtain ⟨r0, r1, r2, r3⟩ := (BR).cells4
          have s0 := (BR).frozen 0
          have s1 := (BR).frozen 1
          have s2 := (BR).frozen 2
          have s3 := (BR).frozen 3
          have GL := below_set4m (hq2) (show w.heap.size ≤ w.heap.size + 1 by omega) (.int .i64 0) (.int .i64 0) (.int .i64 0) (.int .i64 0)
          have GS := (BR).set4m (.int .i64 0) (.int .i64 0) (.int .i64 0) (.int .i64 0)
          go_wp2
          clear r0 r1 r2 r3 s0 s1 s2 s3
          revert GL GS
          generalize World.setCell _ _ _ = Wf
          intro GL GS
          obtain ⟨e0, e1, e2, e3⟩ := GS.cells4
          refine bodyPost_ret (v := .tuple #[.agg #[.int .i64 0, .int .i64 0, .int .i64 0, .int .i64 0], .int .i64 1]) (by simp [results, Tryz.results11, go_sem, e0, e1, e2, e3]) rfl ⟨by rw [HE.out.1, HE.out.2]; rfl, GL⟩
  · have HE := Lib.hid (HC1.out hz)
    generalize Venn.formChk ⟨l, c⟩ = E at HE HRF hz
    have hz1 : (E == 0) = false := beq_eq_false_iff_ne.2 hz
    have hz2 : (E != 0) = true := by rw [bne, hz1]; rfl
    clear HC1 HC2 HC3
    go_enter Tryz.func11, Tryz.ntmps11
    go_wp2_with fail
    refine (HRF.out _ hb0).mono ?_
    rintro e w1 ⟨rfl, hb1⟩
    have hq1 := Below.next hb0 hb1
    have BR := (HR0.out).keep hb1
    clear b0 b1
    obtain ⟨r0, r1, r2, r3⟩ := (BR).cells4
    have s0 := (BR).frozen 0
    have s1 := (BR).frozen 1
    have s2 := (BR).frozen 2
    have s3 := (BR).frozen 3
    have GL := below_set4m (hq1) (show w.heap.size ≤ w.heap.size + 1 by omega) (.int .i64 0) (.int .i64 0) (.int .i64 0) (.int .i64 0)
    have GS := (BR).set4m (.int .i64 0) (.int .i64 0) (.int .i64 0) (.int .i64 0)
    go_wp2
    clear r0 r1 r2 r3 s0 s1 s2 s3
    revert GL GS
    generalize World.setCell _ _ _ = Wf
    intro GL GS
    obtain ⟨e0, e1, e2, e3⟩ := GS.cells4
    refine bodyPost_ret (v := .tuple #[.agg #[.int .i64 0, .int .i64 0, .int .i64 0, .int .i64 0], .int .i64 E]) (by simp [results, Tryz.results11, go_sem, e0, e1, e2, e3]) rfl ⟨by rw [HE.out.1, HE.out.2]; rfl, GL⟩
end Go.Proofs.YtpkleioabinkkaaGreatDoor
