/-
  THE WALK of vennlaw2.AskFollows, where the answer is 0.
-/
import Derived.Test.YtnjamgmaclmlpaaDoorAskFollows0
namespace Go.Proofs.YtnjamgmaclmlpaaDoor
open Go.RowKit

set_option maxHeartbeats 8000000 in
set_option maxRecDepth 100000 in
theorem askFollows_2 (v sa sc : Value) (ls : List Venn.Form) (l : List Venn.Atom) (c : List Int) (u th a b d : Int) (w : World) (hl : IsForms w v ls) (ha : IsAtoms w sa l) (hc : IsInts w sc c) (hk : KindsOk w) (he : Venn.askErr ls ⟨l, c⟩ u = 0) (hN : Venn.askV ls ⟨l, c⟩ u = 0) :
    Calls Tryd.prog 10 #[v, .agg #[sa, sc], .int .i64 u, .agg #[.int .i64 th, .int .i64 a, .int .i64 b, .int .i64 d]] w (Keeps (.bool true) w) := by
  obtain ⟨A, cA, rfl⟩ := ha.slice
  obtain ⟨C, cC, rfl⟩ := hc.slice
  obtain ⟨L, cL, rfl⟩ := forms_slice hl
  have HA := Lib.hid ha
  have HC := Lib.hid hc
  have HL := Lib.hid hl
  have HK := Lib.hid hk
  have HFA := Lib.hid follow_fact
  obtain ⟨hcc, hfc, _⟩ := Venn.askErr_parts he
  obtain ⟨hl0, hl6, hfs, _⟩ := Venn.coreChk_parts hcc
  have HX := Lib.hid (askVv_ok he hN)
  have HWD := Lib.hid (fun (hw : Venn.worldChk ⟨th, a, b, d⟩ = 0) (hu : th = u) (h : Venn.formsTrue ls ⟨th, a, b, d⟩ = true) (v : Bool) (hv : Venn.formTrue ⟨l, c⟩ ⟨th, a, b, d⟩ = v) => Venn.follow_world he hw hu h hv)
  rw [hN] at HWD
  obtain ⟨L', cL', p, hv, hpl, hrd, hpo, hpc, hcm⟩ := forms_open hl
  have hplen : p.length = ls.length := by rw [← hpl]; simp
  obtain ⟨x0, hx0⟩ : ∃ x, p[0]? = some x := ⟨p[0]'(by omega), List.getElem?_eq_getElem (by omega)⟩
  obtain ⟨ad, e0, hcell0⟩ := hrd _ _ (fCells_at p 0 x0 hx0).1
  obtain ⟨ad', e0', hcell1⟩ := hrd _ _ (fCells_at p 0 x0 hx0).2
  have hLe : L = some ad := by injection hv with q1; rw [q1, e0]
  have hce : cL = cL' := by injection hv
  subst hLe hce
  have hLe : ad' = ad := by rw [e0] at e0'; injection e0' with q; exact q.symm
  subst hLe
  subst e0
  obtain ⟨hp1, hp2⟩ := hpo x0 (List.mem_of_getElem? hx0)
  obtain ⟨⟨la, lc⟩, va, vc⟩ := x0
  simp only at hp1 hp2 hcell0 hcell1
  obtain ⟨PA, pA, rfl⟩ := hp1.slice
  obtain ⟨PC, pC, rfl⟩ := hp2.slice
  have hmem0 : (⟨la, lc⟩ : Venn.Form) ∈ ls := by rw [← hpl]; exact List.mem_map.2 ⟨_, List.mem_of_getElem? hx0, rfl⟩
  obtain ⟨fh1, fh2⟩ := Venn.follow_head he hmem0
  have HH0 := Lib.hid (askVv_ok fh1 fh2)
  have HNE := Lib.hid (fun (h : c.length < 20) => (⟨askVv_ok (Venn.follow_neg he h).1 ((Venn.follow_neg he h).2.trans (by rw [hN])), fun h5 => Venn.follow_open he h h5⟩ : askVv ls (Venn.negF ⟨l, c⟩) u = .tuple #[.int .i64 (-0), .nilIface] ∧ (ls.length ≤ 5 → Venn.coreChk (ls ++ [Venn.negF ⟨l, c⟩]) u = 0 ∧ Venn.openV (ls ++ [Venn.negF ⟨l, c⟩]) u = !decide (Venn.askV ls ⟨l, c⟩ u = 1))))
  have HN := Lib.hid hN
  have HP1 := Lib.hid hp1
  have HP2 := Lib.hid hp2
  have HRD := Lib.hid hrd
  have HPO := Lib.hid hpo
  have HPL := Lib.hid hpl
  have HFC := Lib.hid hfc
  have HC0 := Lib.hid (show w.cell? ad' = some (.slice PA la.length pA) by have := hcell0; rwa [Nat.zero_mul, add0'] at this)
  have HC1 := Lib.hid (show w.cell? ⟨ad'.block, ad'.off + 1, none⟩ = some (.slice PC lc.length pC) by have := hcell1; rwa [adr_add _ _ _ (by decide), Nat.zero_mul, add0'] at this)
  obtain ⟨_, _, hc20, _⟩ := And.intro hl0 (And.intro hl6 (And.intro (Venn.formChk_parts hfc).2.2.2.1 trivial))
  have HPLEN := Lib.hid hplen
  have n1 : ¬ (ls.length : Int) < 1 := by omega
  have n2 : ¬ (6 : Int) < (ls.length : Int) := by omega
  clear ha hc hl hk he hN hcc hfc hfs hv hpl hrd hpo hpc hcm hplen hx0 hcell0 hcell1 hp1 hp2 hmem0 fh1 fh2 e0'
  go_enter Tryd.func10, Tryd.ntmps10
  go_wp2_with fail
  refine (ask_Of _ _ _ [Venn.moreForm 0 2] [⟨3, [0], [], 1⟩] [0] 3 _ (IsForms.one (t := 41) (f := Venn.moreForm 0 2) (by repeat (first | (refine Blk.newAt ?_ _ _; simp; done) | refine Blk.alloc ?_ _)) (IsAtoms.one (t := 56) (a := ⟨3, [0], [], 2⟩) (by repeat (first | (refine Blk.newAt ?_ _ _; simp; done) | refine Blk.alloc ?_ _)) (IsInts.of_blk1 (t := 3) (by repeat (first | (refine Blk.newAt ?_ _ _; simp; done) | refine Blk.alloc ?_ _))) (IsIntsNil _)) (IsInts.of_blk1 (t := 3) (by repeat (first | (refine Blk.newAt ?_ _ _; simp; done) | refine Blk.alloc ?_ _)))) (IsAtoms.one (t := 56) (a := ⟨3, [0], [], 1⟩) (by repeat (first | (refine Blk.newAt ?_ _ _; simp; done) | refine Blk.alloc ?_ _)) (IsInts.of_blk1 (t := 3) (by repeat (first | (refine Blk.newAt ?_ _ _; simp; done) | refine Blk.alloc ?_ _))) (IsIntsNil _)) (IsInts.of_blk1 (t := 3) (by repeat (first | (refine Blk.newAt ?_ _ _; simp; done) | refine Blk.alloc ?_ _))) (HK.out.keep (by (repeat' (first | (with_reducible exact Below.refl _ _) | (with_reducible assumption) | (with_reducible refine Below.next ?_ (by with_reducible assumption)) | (with_reducible refine Below.drew ?_) | (with_reducible refine Below.laid ?_ _) | (with_reducible refine Below.setCell ?_ ?_ _) | (with_reducible refine size_of ?_) | (with_reducible refine Nat.le_succ_of_le ?_) | go_size))))).mono ?_
  rintro e w1 ⟨rfl, hb1⟩
  rw [HFA.out]
  have hw1 : Below w.heap.size w w1 := by (repeat' (first | (with_reducible exact Below.refl _ _) | (with_reducible assumption) | (with_reducible refine Below.next ?_ (by with_reducible assumption)) | (with_reducible refine Below.drew ?_) | (with_reducible refine Below.laid ?_ _) | (with_reducible refine Below.setCell ?_ ?_ _) | (with_reducible refine size_of ?_) | (with_reducible refine Nat.le_succ_of_le ?_) | go_size))
  have BF : Blk w1 w.heap.size 41 #[.slice A l.length cA, .slice C c.length cC] := Blk.keep (by repeat (first | exact Blk.new _ _ _ | refine Blk.alloc ?_ _)) hb1
  have BW : Blk w1 (w.heap.size + 1) 44 #[.int .i64 th, .int .i64 a, .int .i64 b, .int .i64 d] := Blk.keep (by repeat (first | (refine Blk.newAt ?_ _ _; simp; done) | refine Blk.alloc ?_ _)) hb1
  obtain ⟨⟨BF0, BF1⟩, _⟩ := BF.cells2
  have BFl := BF.lt
  obtain ⟨BW0, BW1, BW2, BW3⟩ := BW.cells4
  have BWl := BW.lt
  go_wp2_with fail
  refine (ask_Of _ _ _ ls l c u _ (HL.out.keep (by (repeat' (first | (with_reducible exact Below.refl _ _) | (with_reducible assumption) | (with_reducible refine Below.next ?_ (by with_reducible assumption)) | (with_reducible refine Below.drew ?_) | (with_reducible refine Below.laid ?_ _) | (with_reducible refine Below.setCell ?_ ?_ _) | (with_reducible refine size_of ?_) | (with_reducible refine Nat.le_succ_of_le ?_) | go_size)))) (HA.out.keep (by (repeat' (first | (with_reducible exact Below.refl _ _) | (with_reducible assumption) | (with_reducible refine Below.next ?_ (by with_reducible assumption)) | (with_reducible refine Below.drew ?_) | (with_reducible refine Below.laid ?_ _) | (with_reducible refine Below.setCell ?_ ?_ _) | (with_reducible refine size_of ?_) | (with_reducible refine Nat.le_succ_of_le ?_) | go_size)))) (HC.out.keep (by (repeat' (first | (with_reducible exact Below.refl _ _) | (with_reducible assumption) | (with_reducible refine Below.next ?_ (by with_reducible assumption)) | (with_reducible refine Below.drew ?_) | (with_reducible refine Below.laid ?_ _) | (with_reducible refine Below.setCell ?_ ?_ _) | (with_reducible refine size_of ?_) | (with_reducible refine Nat.le_succ_of_le ?_) | go_size)))) (HK.out.keep (by (repeat' (first | (with_reducible exact Below.refl _ _) | (with_reducible assumption) | (with_reducible refine Below.next ?_ (by with_reducible assumption)) | (with_reducible refine Below.drew ?_) | (with_reducible refine Below.laid ?_ _) | (with_reducible refine Below.setCell ?_ ?_ _) | (with_reducible refine size_of ?_) | (with_reducible refine Nat.le_succ_of_le ?_) | go_size))))).mono ?_
  rintro e w2 ⟨rfl, hb2⟩
  rw [HX.out]
  have hq2 : Below w1.heap.size w1 w2 := by (repeat' (first | (with_reducible exact Below.refl _ _) | (with_reducible assumption) | (with_reducible refine Below.next ?_ (by with_reducible assumption)) | (with_reducible refine Below.drew ?_) | (with_reducible refine Below.laid ?_ _) | (with_reducible refine Below.setCell ?_ ?_ _) | (with_reducible refine size_of ?_) | (with_reducible refine Nat.le_succ_of_le ?_) | go_size))
  have hw2 : Below w.heap.size w w2 := Below.next hw1 hq2
  replace BF := BF.keep hq2
  try clear BF0 BF1 BFl
  obtain ⟨⟨BF0, BF1⟩, _⟩ := BF.cells2
  have BFl := BF.lt
  replace BW := BW.keep hq2
  try clear BW0 BW1 BW2 BW3 BWl
  obtain ⟨BW0, BW1, BW2, BW3⟩ := BW.cells4
  have BWl := BW.lt
  go_wp2
  go_loopw [15, 16] (fun al i wr => ∃ (k : Nat) (x : Bool), k ≤ ls.length ∧ i = .int .i64 k ∧ al = .bool x ∧ AllSo ls ⟨th, a, b, d⟩ th u k x ∧ Below w.heap.size w wr ∧ Blk wr w.heap.size 41 #[.slice A l.length cA, .slice C c.length cC] ∧ Blk wr (w.heap.size + 1) 44 #[.int .i64 th, .int .i64 a, .int .i64 b, .int .i64 d])
    (fun _ i _ => ls.length - (intOf i).toNat)
  case atStart => exact ⟨0, th == u, Nat.zero_le _, rfl, rfl, fun h => ⟨by simpa using h, fun h => absurd h (by decide), fun f hf => by simp at hf⟩, hw2, BF, BW⟩
  case round =>
    clear BF0 BF1 BFl BW0 BW1 BW2 BW3 BWl BF BW hb1 hb2 hq2 hw1 hw2
    obtain ⟨k, x, hk, rfl, rfl, hAS, hw3, BF, BW⟩ := hrel
    obtain ⟨wo, rfl⟩ : ∃ wo : World, wo = wr := ⟨_, rfl⟩
    have HAS := Lib.hid hAS
    clear hAS
    obtain ⟨⟨BF0, BF1⟩, _⟩ := BF.cells2
    have BFl := BF.lt
    obtain ⟨BW0, BW1, BW2, BW3⟩ := BW.cells4
    have BWl := BW.lt
    by_cases hlt : k < ls.length
    · obtain ⟨⟨⟨fl, fc⟩, fa, fd⟩, hx⟩ : ∃ x : FV, p[k]? = some x := ⟨p[k]'(by rw [HPLEN.out]; exact hlt), List.getElem?_eq_getElem _⟩
      obtain ⟨g0, g1⟩ := fCells_at p k _ hx
      obtain ⟨ad2, e2, hd0⟩ := HRD.out _ _ g0
      obtain ⟨ad3, e3, hd1⟩ := HRD.out _ _ g1
      cases e2
      cases e3
      rw [adr_add _ _ _ (by decide)] at hd1
      obtain ⟨hfa, hfd⟩ := HPO.out _ (List.mem_of_getElem? hx)
      simp only at hd0 hd1 hfa hfd
      obtain ⟨FA, fA, rfl⟩ := hfa.slice
      obtain ⟨FD, fD, rfl⟩ := hfd.slice
      have d0 := cell_keep hw3 hd0
      have d1 := cell_keep hw3 hd1
      have HFA' := Lib.hid hfa
      have HFD := Lib.hid hfd
      have hget : ls[k]? = some ⟨fl, fc⟩ := by rw [← HPL.out, List.getElem?_map, hx]; rfl
      have HGE := Lib.hid hget
      have hk1 : (k : Int) < (ls.length : Int) := by omega
      have hk0 : (0 : Int) ≤ (k : Int) := by omega
      have HSTEP := Lib.hid (show x = true → Venn.formHoldsChk ⟨fl, fc⟩ ⟨th, a, b, d⟩ = 0 → Venn.formHoldsV ⟨fl, fc⟩ ⟨th, a, b, d⟩ = true → AllSo ls ⟨th, a, b, d⟩ th u (k + 1) true from fun e1 e2 e3 _ => by
        obtain ⟨q1, q2, q3⟩ := HAS.out e1
        have e4 : Venn.worldChk ⟨th, a, b, d⟩ = 0 := by
          rw [Venn.formHoldsChk] at e2
          split at e2
          · exact e2
          · contradiction
        refine ⟨q1, fun _ => e4, fun f hf => ?_⟩
        rw [List.take_add_one, HGE.out] at hf
        rcases List.mem_append.1 hf with hf | hf
        · exact q3 f hf
        · simp at hf
          rw [hf]
          rw [Venn.formHoldsV, if_pos e2] at e3
          exact e3)
      clear hfa hfd hd0 hd1 hx g0 g1 hget
      have d0' : wo.drew.cell? (ad'.add (k * 2)) = some (.slice FA fl.length fA) := d0
      have d1' : wo.drew.cell? ⟨(ad'.add (k * 2)).block, (ad'.add (k * 2)).off + 1, none⟩ = some (.slice FD fc.length fD) := d1
      have BWd := BW.drew
      go_wp2_with fail
      go_region_held3 (fun w' => w'.cell? (ad'.add (k * 2)) = some (.slice FA fl.length fA) ∧ w'.cell? ⟨(ad'.add (k * 2)).block, (ad'.add (k * 2)).off + 1, none⟩ = some (.slice FD fc.length fD) ∧ w'.cell? ⟨w.heap.size + 1, 0, none⟩ = some (.int .i64 th) ∧ w'.cell? ⟨w.heap.size + 1, 1, none⟩ = some (.int .i64 a) ∧ w'.cell? ⟨w.heap.size + 1, 2, none⟩ = some (.int .i64 b) ∧ w'.cell? ⟨w.heap.size + 1, 3, none⟩ = some (.int .i64 d))
        (first | with_reducible exact held_follow (W := wo) BW d0 d1 | with_reducible exact held_follow (W := wo.drew) BWd d0' d1' | with_reducible exact held_follow (W := w4) GW e0 e1)
        (first
        | (go_at_call 27; refine (form_Holds _ _ fl fc _ _ _ _ _ (HFA'.out.keep (by (repeat' (first | (with_reducible exact Below.refl _ _) | (with_reducible assumption) | (with_reducible refine Below.next ?_ (by with_reducible assumption)) | (with_reducible refine Below.drew ?_) | (with_reducible refine Below.laid ?_ _) | (with_reducible refine Below.setCell ?_ ?_ _) | (with_reducible refine size_of ?_) | (with_reducible refine Nat.le_succ_of_le ?_) | go_size)))) (HFD.out.keep (by (repeat' (first | (with_reducible exact Below.refl _ _) | (with_reducible assumption) | (with_reducible refine Below.next ?_ (by with_reducible assumption)) | (with_reducible refine Below.drew ?_) | (with_reducible refine Below.laid ?_ _) | (with_reducible refine Below.setCell ?_ ?_ _) | (with_reducible refine size_of ?_) | (with_reducible refine Nat.le_succ_of_le ?_) | go_size)))) (HK.out.keep (by (repeat' (first | (with_reducible exact Below.refl _ _) | (with_reducible assumption) | (with_reducible refine Below.next ?_ (by with_reducible assumption)) | (with_reducible refine Below.drew ?_) | (with_reducible refine Below.laid ?_ _) | (with_reducible refine Below.setCell ?_ ?_ _) | (with_reducible refine size_of ?_) | (with_reducible refine Nat.le_succ_of_le ?_) | go_size))))).mono ?_; rintro e w4 ⟨rfl, hb4⟩
           first
           | (have GW := BW.keep hb4; have GF := BF.keep hb4; have hw4 := Below.next hw3 hb4; have e0 := cell_keep hb4 d0; have e1 := cell_keep hb4 d1)
           | (have GW := BW.drew.keep hb4; have GF := BF.drew.keep hb4; have hw4 := Below.next (Below.drew hw3) hb4; have e0 := cell_keep hb4 d0'; have e1 := cell_keep hb4 d1')))
      all_goals
        clear d0 d1 d0' d1' e0 e1 BWd BF0 BF1 BFl BW0 BW1 BW2 BW3 BWl
        cases x
        · go_wp2
          go_roundw
          case rel => exact ⟨k + 1, false, by omega, by go_num, rfl, AllSo.no, hw4, GF, GW⟩
          case measure => simp [intOf]; omega
        · by_cases hchk : Venn.formHoldsChk ⟨fl, fc⟩ ⟨th, a, b, d⟩ = 0
          · rw [errV_zero hchk]
            have HST := Lib.hid (HSTEP.out rfl hchk)
            clear hchk HSTEP
            cases hv : Venn.formHoldsV ⟨fl, fc⟩ ⟨th, a, b, d⟩
            · clear HST hv
              go_wp2
              go_roundw
              case rel => exact ⟨k + 1, false, by omega, by go_num, rfl, AllSo.no, hw4, GF, GW⟩
              case measure => simp [intOf]; omega
            · have hs := HST.out hv
              have HS := Lib.hid hs
              clear HST hv hs
              go_wp2
              go_roundw
              case rel => exact ⟨k + 1, true, by omega, by go_num, rfl, HS.out, hw4, GF, GW⟩
              case measure => simp [intOf]; omega
          · rw [errV_ne hchk]
            clear hchk HSTEP
            generalize Venn.formHoldsV ⟨fl, fc⟩ ⟨th, a, b, d⟩ = hv
            go_wp2
            go_roundw
            case rel => exact ⟨k + 1, false, by omega, by go_num, rfl, AllSo.no, hw4, GF, GW⟩
            case measure => simp [intOf]; omega
    · have hk' : k = ls.length := by omega
      subst hk'
      obtain ⟨w5, rfl⟩ : ∃ w5 : World, w5 = wo := ⟨_, rfl⟩
      have hw5 := hw3
      go_wp2_with fail
      refine (form_Holds _ _ l c _ _ _ _ _ (HA.out.keep (by (repeat' (first | (with_reducible exact Below.refl _ _) | (with_reducible assumption) | (with_reducible refine Below.next ?_ (by with_reducible assumption)) | (with_reducible refine Below.drew ?_) | (with_reducible refine Below.laid ?_ _) | (with_reducible refine Below.setCell ?_ ?_ _) | (with_reducible refine size_of ?_) | (with_reducible refine Nat.le_succ_of_le ?_) | go_size)))) (HC.out.keep (by (repeat' (first | (with_reducible exact Below.refl _ _) | (with_reducible assumption) | (with_reducible refine Below.next ?_ (by with_reducible assumption)) | (with_reducible refine Below.drew ?_) | (with_reducible refine Below.laid ?_ _) | (with_reducible refine Below.setCell ?_ ?_ _) | (with_reducible refine size_of ?_) | (with_reducible refine Nat.le_succ_of_le ?_) | go_size)))) (HK.out.keep (by (repeat' (first | (with_reducible exact Below.refl _ _) | (with_reducible assumption) | (with_reducible refine Below.next ?_ (by with_reducible assumption)) | (with_reducible refine Below.drew ?_) | (with_reducible refine Below.laid ?_ _) | (with_reducible refine Below.setCell ?_ ?_ _) | (with_reducible refine size_of ?_) | (with_reducible refine Nat.le_succ_of_le ?_) | go_size))))).mono ?_
      rintro e w6 ⟨rfl, hb6⟩
      have hq6 : Below w5.heap.size w5 w6 := by (repeat' (first | (with_reducible exact Below.refl _ _) | (with_reducible assumption) | (with_reducible refine Below.next ?_ (by with_reducible assumption)) | (with_reducible refine Below.drew ?_) | (with_reducible refine Below.laid ?_ _) | (with_reducible refine Below.setCell ?_ ?_ _) | (with_reducible refine size_of ?_) | (with_reducible refine Nat.le_succ_of_le ?_) | go_size))
      have hw6 : Below w.heap.size w w6 := Below.next hw5 hq6
      replace BF := BF.keep hq6
      try clear BF0 BF1 BFl
      obtain ⟨⟨BF0, BF1⟩, _⟩ := BF.cells2
      have BFl := BF.lt
      replace BW := BW.keep hq6
      try clear BW0 BW1 BW2 BW3 BWl
      obtain ⟨BW0, BW1, BW2, BW3⟩ := BW.cells4
      have BWl := BW.lt
      by_cases hchk : ¬ Venn.formHoldsChk ⟨l, c⟩ ⟨th, a, b, d⟩ = 0
      focus
        rw [errV_ne hchk]
        clear hchk
        generalize Venn.formHoldsV ⟨l, c⟩ ⟨th, a, b, d⟩ = hv
        go_upto_region 18 with (fail)
      rotate_left
      replace hchk := Decidable.not_not.1 hchk
      rw [errV_zero hchk]
      cases x
      focus
        clear hchk
        generalize Venn.formHoldsV ⟨l, c⟩ ⟨th, a, b, d⟩ = hv
        go_upto_region 18 with (fail)
      rotate_left
      have hwc : Venn.worldChk ⟨th, a, b, d⟩ = 0 := by rwa [Venn.formHoldsChk, if_pos HFC.out] at hchk
      have HVV := Lib.hid (show Venn.formHoldsV ⟨l, c⟩ ⟨th, a, b, d⟩ = Venn.formTrue ⟨l, c⟩ ⟨th, a, b, d⟩ by rw [Venn.formHoldsV, if_pos hchk])
      obtain ⟨q1, _, q3⟩ := HAS.out rfl
      have HNO := Lib.hid (fun v hv => HWD.out hwc q1 (List.all_eq_true.2 fun f hf => q3 f (by rw [List.take_length]; exact hf)) v hv)
      rw [HVV.out]
      clear hchk hwc HVV q1 q3
      cases hv : Venn.formTrue ⟨l, c⟩ ⟨th, a, b, d⟩
      focus
        clear hv
        go_upto_region 18 with (fail)
      rotate_left
      focus
        clear hv
        go_upto_region 18 with (fail)
      all_goals
        clear HWD HAS
        have c0 := cell_keep hw6 HC0.out
        have c1 := cell_keep hw6 HC1.out
        have hk0 : (0 : Int) < (ls.length : Int) := by omega
        go_wp2_with fail
        refine (ask_Of _ _ _ ls la lc u _ (HL.out.keep (by (repeat' (first | (with_reducible exact Below.refl _ _) | (with_reducible assumption) | (with_reducible refine Below.next ?_ (by with_reducible assumption)) | (with_reducible refine Below.drew ?_) | (with_reducible refine Below.laid ?_ _) | (with_reducible refine Below.setCell ?_ ?_ _) | (with_reducible refine size_of ?_) | (with_reducible refine Nat.le_succ_of_le ?_) | go_size)))) (HP1.out.keep (by (repeat' (first | (with_reducible exact Below.refl _ _) | (with_reducible assumption) | (with_reducible refine Below.next ?_ (by with_reducible assumption)) | (with_reducible refine Below.drew ?_) | (with_reducible refine Below.laid ?_ _) | (with_reducible refine Below.setCell ?_ ?_ _) | (with_reducible refine size_of ?_) | (with_reducible refine Nat.le_succ_of_le ?_) | go_size)))) (HP2.out.keep (by (repeat' (first | (with_reducible exact Below.refl _ _) | (with_reducible assumption) | (with_reducible refine Below.next ?_ (by with_reducible assumption)) | (with_reducible refine Below.drew ?_) | (with_reducible refine Below.laid ?_ _) | (with_reducible refine Below.setCell ?_ ?_ _) | (with_reducible refine size_of ?_) | (with_reducible refine Nat.le_succ_of_le ?_) | go_size)))) (HK.out.keep (by (repeat' (first | (with_reducible exact Below.refl _ _) | (with_reducible assumption) | (with_reducible refine Below.next ?_ (by with_reducible assumption)) | (with_reducible refine Below.drew ?_) | (with_reducible refine Below.laid ?_ _) | (with_reducible refine Below.setCell ?_ ?_ _) | (with_reducible refine size_of ?_) | (with_reducible refine Nat.le_succ_of_le ?_) | go_size))))).mono ?_
        rintro e w7 ⟨rfl, hb7⟩
        rw [HH0.out]
        have hw7 := Below.next hw6 hb7
        clear c0 c1 BF0 BF1 BFl BW0 BW1 BW2 BW3 BWl BW
        replace BF := BF.keep hb7
        obtain ⟨⟨BF0, BF1⟩, _⟩ := BF.cells2
        have BFl := BF.lt
        by_cases h20 : c.length = 20
        · have HNC := Lib.hid (show Venn.negChk ⟨l, c⟩ = 4 by rw [Venn.negChk, if_pos HFC.out, if_pos h20])
          have HNV := Lib.hid (show negV ⟨l, c⟩ = noForm by rw [negV, if_neg (by rw [HNC.out]; decide)])
          clear h20 HNE
          go_wp2_with fail
          refine (form_Negate _ _ l c _ (HA.out.keep (by (repeat' (first | (with_reducible exact Below.refl _ _) | (with_reducible assumption) | (with_reducible refine Below.next ?_ (by with_reducible assumption)) | (with_reducible refine Below.drew ?_) | (with_reducible refine Below.laid ?_ _) | (with_reducible refine Below.setCell ?_ ?_ _) | (with_reducible refine size_of ?_) | (with_reducible refine Nat.le_succ_of_le ?_) | go_size)))) (HC.out.keep (by (repeat' (first | (with_reducible exact Below.refl _ _) | (with_reducible assumption) | (with_reducible refine Below.next ?_ (by with_reducible assumption)) | (with_reducible refine Below.drew ?_) | (with_reducible refine Below.laid ?_ _) | (with_reducible refine Below.setCell ?_ ?_ _) | (with_reducible refine size_of ?_) | (with_reducible refine Nat.le_succ_of_le ?_) | go_size)))) (HK.out.keep (by (repeat' (first | (with_reducible exact Below.refl _ _) | (with_reducible assumption) | (with_reducible refine Below.next ?_ (by with_reducible assumption)) | (with_reducible refine Below.drew ?_) | (with_reducible refine Below.laid ?_ _) | (with_reducible refine Below.setCell ?_ ?_ _) | (with_reducible refine size_of ?_) | (with_reducible refine Nat.le_succ_of_le ?_) | go_size))))).mono ?_
          rintro e w8 ⟨A8, kA8, C8, kC8, rfl, hb8, hA8, hC8⟩
          rw [HNV.out, HNC.out, errV_ne (e := 4) (by decide)]
          simp only [noForm, List.length_nil]
          clear hA8 hC8
          go_wp2
          go_ret
          exact ⟨rfl, by (repeat' (first | (with_reducible exact Below.refl _ _) | (with_reducible assumption) | (with_reducible refine Below.next ?_ (by with_reducible assumption)) | (with_reducible refine Below.drew ?_) | (with_reducible refine Below.laid ?_ _) | (with_reducible refine Below.setCell ?_ ?_ _) | (with_reducible refine size_of ?_) | (with_reducible refine Nat.le_succ_of_le ?_) | go_size))⟩
        · obtain ⟨k1, k2⟩ := HNE.out (show c.length < 20 by omega)
          have HNC := Lib.hid (show Venn.negChk ⟨l, c⟩ = 0 by rw [Venn.negChk, if_pos HFC.out, if_neg h20])
          have HNV := Lib.hid (show negV ⟨l, c⟩ = Venn.negF ⟨l, c⟩ by rw [negV, if_pos HNC.out])
          rw [HN.out] at k2
          have HK1 := Lib.hid (show askVv ls (Venn.negF ⟨l, c⟩) u = .tuple #[.int .i64 (0), .nilIface] from k1)
          have HK2 := Lib.hid (show ls.length ≤ 5 → openVv (ls ++ [Venn.negF ⟨l, c⟩]) u = .tuple #[.bool true, .nilIface] from fun h => openVv_ok (k2 h).1 ((k2 h).2.trans (by decide)))
          generalize Venn.negF ⟨l, c⟩ = N1 at HNV HK1 HK2
          obtain ⟨l1, c1⟩ := N1
          clear h20 HNE k1 k2
          go_wp2_with fail
          refine (form_Negate _ _ l c _ (HA.out.keep (by (repeat' (first | (with_reducible exact Below.refl _ _) | (with_reducible assumption) | (with_reducible refine Below.next ?_ (by with_reducible assumption)) | (with_reducible refine Below.drew ?_) | (with_reducible refine Below.laid ?_ _) | (with_reducible refine Below.setCell ?_ ?_ _) | (with_reducible refine size_of ?_) | (with_reducible refine Nat.le_succ_of_le ?_) | go_size)))) (HC.out.keep (by (repeat' (first | (with_reducible exact Below.refl _ _) | (with_reducible assumption) | (with_reducible refine Below.next ?_ (by with_reducible assumption)) | (with_reducible refine Below.drew ?_) | (with_reducible refine Below.laid ?_ _) | (with_reducible refine Below.setCell ?_ ?_ _) | (with_reducible refine size_of ?_) | (with_reducible refine Nat.le_succ_of_le ?_) | go_size)))) (HK.out.keep (by (repeat' (first | (with_reducible exact Below.refl _ _) | (with_reducible assumption) | (with_reducible refine Below.next ?_ (by with_reducible assumption)) | (with_reducible refine Below.drew ?_) | (with_reducible refine Below.laid ?_ _) | (with_reducible refine Below.setCell ?_ ?_ _) | (with_reducible refine size_of ?_) | (with_reducible refine Nat.le_succ_of_le ?_) | go_size))))).mono ?_
          rintro e w8 ⟨A8, kA8, C8, kC8, rfl, hb8, hA8, hC8⟩
          rw [HNV.out] at hA8 hC8 ⊢
          rw [HNC.out, errV_zero rfl]
          simp only at hA8 hC8 ⊢
          have hw8 := Below.next hw7 hb8
          clear BF0 BF1 BFl BF
          have BG := Blk.new w8 41 #[.slice A8 l1.length kA8, .slice C8 c1.length kC8]
          obtain ⟨⟨g0, g1⟩, _⟩ := BG.cells2
          go_wp2_with fail
          refine (ask_Of _ _ _ ls l1 c1 u _ (HL.out.keep (by (repeat' (first | (with_reducible exact Below.refl _ _) | (with_reducible assumption) | (with_reducible refine Below.next ?_ (by with_reducible assumption)) | (with_reducible refine Below.drew ?_) | (with_reducible refine Below.laid ?_ _) | (with_reducible refine Below.setCell ?_ ?_ _) | (with_reducible refine size_of ?_) | (with_reducible refine Nat.le_succ_of_le ?_) | go_size)))) (hA8.keep (by (repeat' (first | (with_reducible exact Below.refl _ _) | (with_reducible assumption) | (with_reducible refine Below.next ?_ (by with_reducible assumption)) | (with_reducible refine Below.drew ?_) | (with_reducible refine Below.laid ?_ _) | (with_reducible refine Below.setCell ?_ ?_ _) | (with_reducible refine size_of ?_) | (with_reducible refine Nat.le_succ_of_le ?_) | go_size)))) (hC8.keep (by (repeat' (first | (with_reducible exact Below.refl _ _) | (with_reducible assumption) | (with_reducible refine Below.next ?_ (by with_reducible assumption)) | (with_reducible refine Below.drew ?_) | (with_reducible refine Below.laid ?_ _) | (with_reducible refine Below.setCell ?_ ?_ _) | (with_reducible refine size_of ?_) | (with_reducible refine Nat.le_succ_of_le ?_) | go_size)))) (HK.out.keep (by (repeat' (first | (with_reducible exact Below.refl _ _) | (with_reducible assumption) | (with_reducible refine Below.next ?_ (by with_reducible assumption)) | (with_reducible refine Below.drew ?_) | (with_reducible refine Below.laid ?_ _) | (with_reducible refine Below.setCell ?_ ?_ _) | (with_reducible refine size_of ?_) | (with_reducible refine Nat.le_succ_of_le ?_) | go_size))))).mono ?_
          rintro e w9 ⟨rfl, hb9⟩
          rw [HK1.out]
          have hq9 : Below w8.heap.size w8 w9 := by (repeat' (first | (with_reducible exact Below.refl _ _) | (with_reducible assumption) | (with_reducible refine Below.next ?_ (by with_reducible assumption)) | (with_reducible refine Below.drew ?_) | (with_reducible refine Below.laid ?_ _) | (with_reducible refine Below.setCell ?_ ?_ _) | (with_reducible refine size_of ?_) | (with_reducible refine Nat.le_succ_of_le ?_) | go_size))
          have hw9 := Below.next hw8 hq9
          clear g0 g1
          replace BG := BG.keep hb9
          by_cases h6 : ls.length = 6
          · have hq : ((ls.length : Int) == 6) = true := beq_iff_eq.2 (by omega)
            clear h6 hA8 hC8 BG
            go_wp2
            go_ret
            exact ⟨rfl, hw9⟩
          · have hq : ((ls.length : Int) == 6) = false := beq_eq_false_iff_ne.2 (by omega)
            have HOP := Lib.hid (HK2.out (by omega))
            have hn6 : ls.length ≤ 5 := by omega
            clear h6 HK2
            obtain ⟨⟨g0, g1⟩, _⟩ := BG.cells2
            have gl := BG.lt
            have hrd9 := HRD.out.keep hw9
            have hpo9 := HPO.out.keep hw9
            go_wp2_with (at_builtin; refine wpList_appF _ rfl _ _ rfl w9.heap.size _ 0 [] rfl (World.ownsRow_nil _ _ _ _) ad' cL p ?hx hrd9 hpo9 ?hn (Nat.le_refl _) ?_)
            case hx => rw [HPLEN.out]; rfl
            case hn => rw [HPLEN.out]; omega
            intro v10 w10 hown10 hgr10
            obtain ⟨ga, ka, qa, rfl, hga, _⟩ := own_cons hown10 (by rw [HPLEN.out]; omega)
            have hb10 : Below w9.heap.size w9 w10 := (Below.refl _ _).grown hgr10 (Nat.le_refl _) (fun g hg => by simp [Value.ownBlock] at hg)
            have hw10 := Below.next hw9 hb10
            clear g0 g1 gl hrd9 hpo9
            replace BG := BG.keep hb10
            obtain ⟨⟨g0, g1⟩, _⟩ := BG.cells2
            have gl := BG.lt
            have hok2 : FOk (w10.alloc (.cells #[.slice A8 l1.length kA8, .slice C8 c1.length kC8] 41)) [(⟨l1, c1⟩, .slice A8 l1.length kA8, .slice C8 c1.length kC8)] := fun x hx => by
              rw [List.mem_singleton.1 hx]
              exact ⟨hA8.keep (Below.laid (Below.next hq9 hb10) _), hC8.keep (Below.laid (Below.next hq9 hb10) _)⟩
            have hrd2 : Rd (w10.alloc (.cells #[.slice A8 l1.length kA8, .slice C8 c1.length kC8] 41)) (some ⟨w10.heap.size, 0, none⟩) (fCells [((⟨l1, c1⟩ : Venn.Form), .slice A8 l1.length kA8, .slice C8 c1.length kC8)]) := rd_of_blk (n := 2) (Blk.new _ _ _) rfl
            go_wp2_with (at_builtin; refine wpList_appF _ rfl _ _ rfl w9.heap.size _ p.length _ rfl (hown10.alloc _) ⟨w10.heap.size, 0, none⟩ 1 [(⟨l1, c1⟩, .slice A8 l1.length kA8, .slice C8 c1.length kC8)] rfl hrd2 hok2 ?hn2 (by have := hb10.size; simp; omega) ?_)
            case hn2 => rw [HPLEN.out]; simp; omega
            intro v11 w11 hown11 hgr11
            rw [← fCells_app] at hown11
            obtain ⟨gb, kb, qb, rfl, hgb, _⟩ := own_cons hown11 (by simp)
            have hb11 : Below w9.heap.size w9 w11 := ((hb10.alloc hb10.size _).grown hgr11 (by have := hb10.size; simp; omega) (fun g hg => (hown10.lt g hg).1))
            have hw11 := Below.next hw9 hb11
            have hok3 : FOk w11 (p ++ [(⟨l1, c1⟩, .slice A8 l1.length kA8, .slice C8 c1.length kC8)]) := fun x hx => by
              rcases List.mem_append.1 hx with h | h
              · exact (HPO.out.keep hw11) x h
              · rw [List.mem_singleton.1 h]
                exact ⟨hA8.keep (Below.next hq9 hb11), hC8.keep (Below.next hq9 hb11)⟩
            have hF := forms_of_own hown11 hok3
            rw [List.map_append, HPL.out] at hF
            have HFF := Lib.hid (show IsForms w11 _ (ls ++ [⟨l1, c1⟩]) from hF)
            clear g0 g1 gl hok2 hrd2 hown10 hown11 hgr10 hgr11 hok3 hF hA8 hC8 BG
            go_wp2_with fail
            refine (core_Open _ (ls ++ [⟨l1, c1⟩]) u _ HFF.out (HK.out.keep (by (repeat' (first | (with_reducible exact Below.refl _ _) | (with_reducible assumption) | (with_reducible refine Below.next ?_ (by with_reducible assumption)) | (with_reducible refine Below.drew ?_) | (with_reducible refine Below.laid ?_ _) | (with_reducible refine Below.setCell ?_ ?_ _) | (with_reducible refine size_of ?_) | (with_reducible refine Nat.le_succ_of_le ?_) | go_size))))).mono ?_
            rintro e w12 ⟨rfl, hb12⟩
            rw [HOP.out]
            go_wp2
            go_ret
            exact ⟨rfl, by (repeat' (first | (with_reducible exact Below.refl _ _) | (with_reducible assumption) | (with_reducible refine Below.next ?_ (by with_reducible assumption)) | (with_reducible refine Below.drew ?_) | (with_reducible refine Below.laid ?_ _) | (with_reducible refine Below.setCell ?_ ?_ _) | (with_reducible refine size_of ?_) | (with_reducible refine Nat.le_succ_of_le ?_) | go_size))⟩
end Go.Proofs.YtnjamgmaclmlpaaDoor
